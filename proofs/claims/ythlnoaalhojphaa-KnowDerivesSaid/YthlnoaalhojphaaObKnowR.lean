/- The law KnowDerives, walked. No condition. -/
import Derived.Test.YthlnoaalhojphaaObKnowQ
import Derived.Outline
namespace Go.Proofs.Ythlnoaalhojphaa
open Go.RowKit
set_option linter.unusedVariables false
/-- Both states, and the document's list. -/
structure Pair (w0 w : World) (g gk bk gc bc N : Nat) (T : List Nd) (l : List Int) (D : Option Addr) (dc : Nat) (d : List Bool) : Prop where
  k : ∃ vk vp vi, KnF w0 w gk g bk N T l vk vp vi
  c : ∃ vk vp vi, KnF w0 w gc g bc N T l vk vp vi
  d : Bls w D (T.length + 1) dc d
theorem Pair.gr {w0 w w' : World} {g gk bk gc bc N : Nat} {T : List Nd} {l : List Int} {D : Option Addr} {dc : Nat} {d : List Bool} (h : Pair w0 w g gk bk gc bc N T l D dc d) (hg : Gr w w') : Pair w0 w' g gk bk gc bc N T l D dc d := by
  obtain ⟨vk, vp, vi, h1⟩ := h.k
  obtain ⟨vk', vp', vi', h2⟩ := h.c
  exact ⟨⟨vk, vp, vi, h1.gr hg⟩, ⟨vk', vp', vi', h2.gr hg⟩, h.d.mono hg⟩
section
variable {w0 : World} {g gk bk gc bc N : Nat} {T : List Nd} {l : List Int} {D : Option Addr} {dc : Nat} {d : List Bool} (ht : KnT w0 g T l) (n1 : gc ≠ gk) (n2 : bc ≠ bk) (hd : Tells T (InL l) d)
include ht n1 n2
theorem Pair.derK (hd : Tells T (InL l) d) {w : World} (h : Pair w0 w g gk bk gc bc N T l D dc d) (k : Nat) (hk : k ≤ 100000) :
    Calls Try.prog 13 #[.pointer (some ⟨gk, 0, none⟩), .int .i64 (k : Int)] w fun e w' => e = .returned (.bool (dAt d k)) ∧ Pair w0 w' g gk bk gc bc N T l D dc d := by
  obtain ⟨vk, vp, vi, h1⟩ := h.k
  obtain ⟨vk', vp', vi', h2⟩ := h.c
  refine (derives_at w0 gk g bk N T l vk vp vi d k w h1 ht hd hk).mono ?_
  rintro e w' ⟨rfl, a, b, c, h3, t⟩
  exact ⟨rfl, ⟨a, b, c, h3⟩, ⟨vk', vp', vi', h1.other h2 t n1 n2⟩, h1.bools h.d t⟩
theorem Pair.derC (hd : Tells T (InL l) d) {w : World} (h : Pair w0 w g gk bk gc bc N T l D dc d) (k : Nat) (hk : k ≤ 100000) :
    Calls Try.prog 13 #[.pointer (some ⟨gc, 0, none⟩), .int .i64 (k : Int)] w fun e w' => e = .returned (.bool (dAt d k)) ∧ Pair w0 w' g gk bk gc bc N T l D dc d := by
  obtain ⟨vk, vp, vi, h1⟩ := h.k
  obtain ⟨vk', vp', vi', h2⟩ := h.c
  refine (derives_at w0 gc g bc N T l vk' vp' vi' d k w h2 ht hd hk).mono ?_
  rintro e w' ⟨rfl, a, b, c, h3, t⟩
  exact ⟨rfl, ⟨vk, vp, vi, h2.other h1 t n1.symm n2.symm⟩, ⟨a, b, c, h3⟩, h2.bools h.d t⟩
theorem Pair.outK {w : World} (h : Pair w0 w g gk bk gc bc N T l D dc d) (id : Int) (hi : In64 id) (ho : outside T.length id = true) :
    Calls Try.prog 13 #[.pointer (some ⟨gk, 0, none⟩), .int .i64 id] w fun e w' => e = .returned (.bool false) ∧ Pair w0 w' g gk bk gc bc N T l D dc d := by
  obtain ⟨vk, vp, vi, h1⟩ := h.k
  obtain ⟨vk', vp', vi', h2⟩ := h.c
  refine (derives_out w0 gk g bk N T l vk vp vi id w h1 ht hi ho).mono ?_
  rintro e w' ⟨rfl, a, b, c, h3, t⟩
  exact ⟨rfl, ⟨a, b, c, h3⟩, ⟨vk', vp', vi', h1.other h2 t n1 n2⟩, h1.bools h.d t⟩
end
theorem okIds_take {T : List Nd} {ids : List Int} {k : Nat} (hk : k < ids.length) : okIds T (ids.take k) ++ okIds T [iAt ids k] = okIds T (ids.take (k + 1)) := by
  rw [List.take_succ_eq_append_getElem hk, iAt_get hk]
  unfold okIds
  rw [List.filter_append]
set_option maxRecDepth 100000 in
set_option maxHeartbeats 1000000 in
theorem knowDerives_walk (A B : Option Addr) (n c m e : Nat) (L : List Ac) (ids : List Int) (w : World) (h : Rs Ac.cells 4 w A n c L) (hok : ∀ x ∈ L, x.ok) (hi : Is w B m e ids) (hf : ∀ x ∈ ids, In64 x) :
    Calls Try.prog 3 #[.slice A n c, .slice B m e] w fun e w' => e = .returned (.bool true) ∧ Below w.heap.size w w' := by
  have HLI := Lib.hid (light16_any A B n c m e L w h hok ⟨hi.cap, hi.max⟩)
  have HAL := Lib.hid alive16_any
  by_cases hlt : light16 L m = true
  · rw [hlt] at HLI
    have hsm : lightA L = true ∧ L.length ≤ 30 ∧ m ≤ 20 := by
      unfold light16 at hlt
      simp at hlt
      exact ⟨hlt.1, hlt.2.1, hlt.2.2⟩
    have hln : L.length = n := h.1
    have hMD := made_any A n c L w h hok (by omega)
    have hTG := madeT_all L hok (by omega)
    have TG := Lib.hid hTG; have MD := Lib.hid hMD
    have HI := Lib.hid hi; have HF := Lib.hid hf
    have hm20 := hsm.2.2
    have HLL := Lib.hid hi.len
    have hcap := hi.cap; have hmax := hi.max
    have hT30 : (madeT L).length ≤ 30 := by have := hTG.l; omega
    generalize madeT L = T at *
    clear h hok hi hf hlt hsm hln hMD hTG
    go_enter Try.func3, Try.ntmps3
    go_wp2_with fail
    refine HLI.out.mono ?_
    rintro e w0 ⟨rfl, rfl⟩
    go_wp2_with fail
    refine MD.out.mono ?_
    rintro e w1 ⟨g, bm, vl, vs, vx, rfl, htw⟩
    have TW := Lib.hid htw; clear htw MD
    obtain ⟨Ax, cx, rfl, hrx⟩ := Own.rs TW.out.r
    have RX := Lib.hid hrx; have hxc := hrx.cap; have hxm := hrx.max
    have B1 := Lib.hid TW.out.f.below
    have HKT : Hid (KnT w1 g T (okIds T ids)) := ⟨TW.out.f.rd, TG.out.i.parts, TG.out.i.kinds, by omega, okIds_in⟩
    clear hrx
    obtain ⟨t, hTl⟩ : ∃ t, t = T.length := ⟨_, rfl⟩
    have HTL := Lib.hid hTl
    rw [← hTl] at hT30 hxc ⊢
    clear hTl
    go_wp2_with fail
    refine (knowNew_any w1 g T w1 (Below.refl _ _)).mono ?_
    rintro e w2 ⟨gk, bk, rfl, k2, g2, _, _⟩
    have K2 := Lib.hid k2; clear k2 g2
    go_wp2_with fail
    go_loopw [8] (fun i wr => ∃ j : Nat, j ≤ m ∧ i = .int .i64 j ∧ ∃ vk vp vi, KnF w1 wr gk g bk j T (okIds T (ids.take j)) vk vp vi) (fun i _ => m - (Go.RowKit.intOf i).toNat)
    case atStart => exact ⟨0, Nat.zero_le _, rfl, _, _, _, K2.out⟩
    case round =>
      obtain ⟨j, hjm, rfl, vk, vp, vi, hkn⟩ := hrel
      have KN := Lib.hid hkn; clear hkn
      by_cases hlt : j < m
      · have t0 : decide ((j : Int) < (m : Int)) = true := decide_eq_true (by omega)
        obtain ⟨b, o, rfl, hcc⟩ := Is.addr (HI.out.mono (below_both B1.out KN.out.bel)) (by omega)
        have c0 := hcc j hlt
        have hjl : j < ids.length := by rw [HLL.out]; exact hlt
        have HTK := Lib.hid (okIds_take (T := T) hjl)
        have hin := HF.out (iAt ids j) (iAt_mem hjl)
        clear hcc
        generalize iAt ids j = z at *
        have HLE := Lib.hid (fun wq (hq : Gr wr wq) => learn_any w1 gk g bk j T (okIds T (ids.take j)) vk vp vi (some ⟨wr.heap.size, 0, none⟩) 1 1 [z] (wr.alloc (.cells #[.int .i64 z] 3)) (KN.out.gr (Gr.alloc _ _)) HKT.out.t HKT.out.k (is_one wr z) (by intro x hx; rw [List.mem_singleton.1 hx]; exact hin) (by omega))
        go_wp2_with fail
        refine (HLE.out wr (Gr.refl _)).mono ?_
        rintro e w4 ⟨rfl, k4, _⟩
        rw [HTK.out] at k4
        have K4 := Lib.hid k4; clear k4
        go_wp2_with fail
        exact ⟨⟨j + 1, by omega, by simp, _, _, _, K4.out⟩, by simp [Go.RowKit.intOf]; omega⟩
      · obtain rfl : j = m := by omega
        have t0 : decide ((j : Int) < (j : Int)) = false := by simp
        have hkn := KN.out
        rw [List.take_of_length_le (by rw [HLL.out]; exact Nat.le_refl _)] at hkn
        have KM := Lib.hid hkn
        have HAll := Lib.hid (refAll_any Ax T.length cx T B j e ids wr (RX.out.mono hkn.bel) TG.out.i.parts TG.out.i.kinds (by have := HTL.out; omega) (HI.out.mono (below_both B1.out hkn.bel)))
        have HTE := Lib.hid (all_ok TG.out.i.parts ids)
        rw [← HTL.out] at HAll
        have HDL : Hid ((allL T ids).length = t + 1) := by show _ = _; rw [HTE.out.1, HTL.out]
        obtain ⟨d, hd⟩ : ∃ d, d = allL T ids := ⟨_, rfl⟩
        rw [← hd] at HAll HTE HDL
        clear hkn KN hd
        go_wp2_with fail
        refine HAll.out.mono ?_
        rintro e w4 ⟨D, dc, rfl, hds, g4⟩
        rw [HDL.out] at hds ⊢
        have DS := Lib.hid hds; have K4 := Lib.hid (KM.out.gr g4)
        have hdc := hds.cap; have hdm := hds.max
        clear hds g4 KM HAll
        go_wp2_with fail
        refine (knowClone_any w1 gk g bk j T (okIds T ids) vk vp vi w4 K4.out).mono ?_
        rintro e w5 ⟨gc, bc, rfl, k5, g5, ho1, ho2⟩
        have hng : gc ≠ gk := by have := K4.out.blk.lt; omega
        have hnb : bc ≠ bk := by have := K4.out.m.lt; omega
        have HNG := Lib.hid hng; have HNB := Lib.hid hnb
        have P5 : Hid (Pair w1 w5 g gk bk gc bc j T (okIds T ids) D dc d) := ⟨⟨_, _, _, K4.out.gr g5⟩, ⟨_, _, _, k5⟩, by rw [← HTL.out]; exact DS.out.mono g5⟩
        clear k5 g5 ho1 ho2 hng hnb
        go_wp2_with fail
        refine (P5.out.outK HKT.out HNG.out HNB.out 0 ⟨by decide, by decide⟩ (by unfold outside; simp)).mono ?_
        rintro e w6 ⟨rfl, p6⟩
        have P6 := Lib.hid p6; clear p6 P5
        have hwt : IntKind.i64.wrap ((t : Int) + 1) = (t : Int) + 1 := IntWalk.i64_in _ (by omega)
        go_wp2_with fail
        refine (P6.out.outK HKT.out HNG.out HNB.out ((t : Int) + 1) ⟨by omega, by omega⟩ (by have := HTL.out; unfold outside; simp; omega)).mono ?_
        rintro e w7 ⟨rfl, p7⟩
        have P7 := Lib.hid p7; clear p7 P6
        go_wp2_with fail
        refine (P7.out.outK HKT.out HNG.out HNB.out (-1) ⟨by decide, by decide⟩ (by unfold outside; simp)).mono ?_
        rintro e w8 ⟨rfl, p8⟩
        have P8 := Lib.hid p8; clear p8 P7
        go_wp2_with fail
        go_loopw [11] (fun i wr => ∃ k : Nat, 1 ≤ k ∧ k ≤ t + 1 ∧ i = .int .i64 k ∧ Pair w1 wr g gk bk gc bc j T (okIds T ids) D dc d) (fun i _ => t + 1 - (Go.RowKit.intOf i).toNat)
        case atStart => exact ⟨1, Nat.le_refl _, by omega, rfl, P8.out⟩
        case round =>
          obtain ⟨k, hk1, hkt, rfl, hp⟩ := hrel
          obtain ⟨wx, rfl⟩ : ∃ wx : World, wx = wr := ⟨_, rfl⟩
          have P := Lib.hid hp; clear hp P8
          by_cases hlk : k ≤ t
          · have t3 : decide ((k : Int) ≤ (t : Int)) = true := decide_eq_true (by omega)
            have hkl : k < t + 1 := by omega
            have hkl2 : (k : Int) < (t : Int) + 1 := by omega
            have hkl3 : (0 : Int) ≤ (k : Int) := by omega
            have CD : Hid (∀ wq, Pair w1 wq g gk bk gc bc j T (okIds T ids) D dc d → ∃ bd od, D = some ⟨bd, od, none⟩ ∧ wq.cell? ⟨bd, od + k, none⟩ = some (.bool (dAt d k))) := fun wq hq => by
              obtain ⟨bd, od, e, hc⟩ := Sl.addr hq.d (by omega)
              exact ⟨bd, od, e, hc k _ (boolc_at (by rw [HDL.out]; omega))⟩
            obtain ⟨bd, od, hDe, _⟩ := CD.out _ P.out
            subst hDe
            have CD2 : Hid (∀ wq, Pair w1 wq g gk bk gc bc j T (okIds T ids) (some ⟨bd, od, none⟩) dc d → wq.cell? ⟨bd, od + k, none⟩ = some (.bool (dAt d k))) := fun wq hq => by
              obtain ⟨bd', od', e, hc⟩ := CD.out wq hq
              injection e with e
              injection e with e1 e2
              subst e1 e2
              exact hc
            have HDK : Hid (∀ wq, Pair w1 wq g gk bk gc bc j T (okIds T ids) (some ⟨bd, od, none⟩) dc d → Calls Try.prog 13 #[.pointer (some ⟨gk, 0, none⟩), .int .i64 (k : Int)] wq fun e w' => e = .returned (.bool (dAt d k)) ∧ Pair w1 w' g gk bk gc bc j T (okIds T ids) (some ⟨bd, od, none⟩) dc d) := fun wq hq => hq.derK HKT.out HNG.out HNB.out HTE.out k (by omega)
            have HDC : Hid (∀ wq, Pair w1 wq g gk bk gc bc j T (okIds T ids) (some ⟨bd, od, none⟩) dc d → Calls Try.prog 13 #[.pointer (some ⟨gc, 0, none⟩), .int .i64 (k : Int)] wq fun e w' => e = .returned (.bool (dAt d k)) ∧ Pair w1 w' g gk bk gc bc j T (okIds T ids) (some ⟨bd, od, none⟩) dc d) := fun wq hq => hq.derC HKT.out HNG.out HNB.out HTE.out k (by omega)
            generalize dAt d k = q at CD2 HDK HDC
            have tq : (q != q) = false := by simp
            clear CD
            go_wp2_with fail
            refine wp_region_quiet (C := (fun w' => Pair w1 w' g gk bk gc bc j T (okIds T ids) (some ⟨bd, od, none⟩) dc d)) (by kernel_rfl) (by kernel_rfl) (P.out.gr (Gr.drew _)) ?_
            simp only
            repeat (first
              | go_big_quiet_skip
              | (go_big_quiet_want
                 apply Exists.intro
                 refine ⟨fun wq hq => ?_, ?_⟩
                 · (have c0 := CD2.out wq hq
                    go_simp
                    first
                      | done
                      | exact rfl
                      | (with_reducible exact ⟨rfl, rfl⟩)
                      | (go_at_call 13; first | (((with_reducible refine (HDK.out wq hq).mono ?_); exact fun _ _ h => h)) | (((with_reducible refine (HDC.out wq hq).mono ?_); exact fun _ _ h => h))))
                 go_simp
                 go_big_quiet_on))
            refine wpQuiet_nil ?_
            intro wq hq
            have PQ := Lib.hid hq; clear hq
            go_wp2_with fail
            exact ⟨⟨k + 1, by omega, by omega, by simp, PQ.out⟩, by simp [Go.RowKit.intOf]; omega⟩
          · obtain rfl : k = t + 1 := by omega
            have t3 : decide (((t + 1 : Nat) : Int) ≤ (t : Int)) = false := decide_eq_false (by omega)
            have t4 : decide ((t : Int) + 1 ≤ (t : Int)) = false := decide_eq_false (by omega)
            obtain ⟨vk9, vp9, vi9, hk9⟩ := P.out.k
            have K9 := Lib.hid hk9
            have HOP := Lib.hid (opened_any w1 gk g bk j T (okIds T ids) vk9 vp9 vi9 wx hk9 HKT.out)
            have hbd := P.out.d
            have HRO : Hid (∀ wq, Bls wq D (t + 1) dc d → Below w1.heap.size w1 wq → Calls Try.prog 16 #[.slice Ax t cx, .slice D (t + 1) dc] wq (RetOwnI wq (openedTo T d (t + 1)))) := fun wq h1 h2 =>
              refOpened_any Ax t cx T D dc d wq (by rw [HTL.out]; exact RX.out.mono h2) TG.out.i.parts TG.out.i.kinds (by omega) h1
            rw [← HTL.out] at hbd
            have HBD := Lib.hid hbd
            clear hk9 hbd
            go_wp2_with fail
            refine HOP.out.mono ?_
            rintro e w10 ⟨A1, c1, d1, vk10, vp10, vi10, htl1, rfl, hi1, hk10, ht10⟩
            obtain rfl : d1 = d := Tells.uniq htl1 HTE.out
            rw [← HTL.out] at hi1 ⊢
            have HB10 := Lib.hid (K9.out.bools HBD.out ht10)
            have I1 := Lib.hid hi1; have K10 := Lib.hid hk10
            clear htl1 hi1 hk10 ht10
            go_wp2_with fail
            refine (HRO.out w10 HB10.out K10.out.bel).mono ?_
            rintro e w11 ⟨A2, c2, rfl, hi2, hg11⟩
            have I1' := Lib.hid (I1.out.mono hg11)
            have I2 := Lib.hid hi2; have G11 := Lib.hid (K10.out.gr hg11).bel
            clear hi2 hg11
            go_wp2_with fail
            refine (ints_any A1 A2 _ _ c1 c2 (openedTo T d1 (t + 1)) (openedTo T d1 (t + 1)) w11 I1'.out I2.out).mono ?_
            rintro e w12 ⟨rfl, q12, rfl⟩
            rw [show (openedTo T d1 (t + 1) == openedTo T d1 (t + 1)) = true from by simp]
            go_wp2_with fail
            refine (HAL.out _).mono ?_
            rintro e w13 ⟨rfl, g13⟩
            have G13 := Lib.hid g13; clear g13
            go_wp2_with fail
            go_ret
            exact ⟨rfl, below_both (below_both B1.out (belowN G11.out q12)) G13.out⟩
  · have hlf : light16 L m = false := by simpa using hlt
    rw [hlf] at HLI
    clear h hok hi hf hlt hlf
    go_enter Try.func3, Try.ntmps3
    go_wp2_with fail
    refine HLI.out.mono ?_
    rintro e w0 ⟨rfl, rfl⟩
    go_wp2_with fail
    refine (HAL.out _).mono ?_
    rintro e w1 ⟨rfl, g1⟩
    have G1 := Lib.hid g1; clear g1
    go_wp2_with fail
    go_ret
    exact ⟨rfl, G1.out⟩
end Go.Proofs.Ythlnoaalhojphaa
