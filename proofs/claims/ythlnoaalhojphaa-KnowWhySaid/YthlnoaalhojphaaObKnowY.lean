/- The law KnowWhy, walked. No condition. -/
import Derived.Test.YthlnoaalhojphaaObKnowX
import Derived.Outline
namespace Go.Proofs.Ythlnoaalhojphaa
open Go.RowKit
set_option linter.unusedVariables false
theorem up_len : ∀ (l : List Int) (a b : Int), l.Pairwise (· < ·) → (∀ x ∈ l, a < x ∧ x ≤ b) → (l.length : Int) ≤ b - a ∨ l = []
  | [], _, _, _, _ => .inr rfl
  | x :: l, a, b, hp, h => by
    have hc := List.pairwise_cons.1 hp
    have hx := h x (by simp)
    rcases up_len l x b hc.2 (fun y hy => ⟨hc.1 y hy, (h y (List.mem_cons_of_mem _ hy)).2⟩) with q | q
    · left; simp; omega
    · left; rw [q]; simp; omega
theorem up_in {T : List Nd} {l : List Int} (hp : l.Pairwise (· < ·)) (h : ∀ x ∈ l, outside T.length x = false) : l.length ≤ T.length := by
  rcases up_len l 0 T.length hp (fun x hx => by have := h x hx; unfold outside at this; simp at this; omega) with q | q
  · omega
  · rw [q]; simp
set_option maxRecDepth 100000 in
set_option maxHeartbeats 2000000 in
theorem knowWhy_walk (A B : Option Addr) (n c m e : Nat) (L : List Ac) (ids : List Int) (id : Int) (w : World) (h : Rs Ac.cells 4 w A n c L) (hok : ∀ x ∈ L, x.ok) (hi : Is w B m e ids) (hf : ∀ x ∈ ids, In64 x) (hid : In64 id) :
    Calls Try.prog 4 #[.slice A n c, .slice B m e, .int .i64 id] w fun e w' => e = .returned (.bool true) ∧ Below w.heap.size w w' := by
  have HLI := Lib.hid (light16_any A B n c m e L w h hok ⟨hi.cap, hi.max⟩)
  have HAL := Lib.hid alive16_any
  by_cases hlt : light16 L m = true
  · rw [hlt] at HLI
    have hsm : lightA L = true ∧ L.length ≤ 30 ∧ m ≤ 20 := by
      unfold light16 at hlt
      simp at hlt
      exact ⟨hlt.1, hlt.2.1, hlt.2.2⟩
    have hln : L.length = n := h.1
    have hMD := made_any A n c L w h hok (by omega)
    have hTG := madeT_all L hok (by omega)
    have TG := Lib.hid hTG; have MD := Lib.hid hMD
    have HI := Lib.hid hi; have HF := Lib.hid hf; have HID := Lib.hid hid
    have hm20 := hsm.2.2
    have hcap := hi.cap; have hmax := hi.max
    have hT30 : (madeT L).length ≤ 30 := by have := hTG.l; omega
    generalize madeT L = T at *
    clear h hok hi hf hlt hsm hln hMD hTG hid
    go_enter Try.func4, Try.ntmps4
    go_wp2_with fail
    refine HLI.out.mono ?_
    rintro e w0 ⟨rfl, rfl⟩
    go_wp2_with fail
    refine MD.out.mono ?_
    rintro e w1 ⟨g, bm, vl, vs, vx, rfl, htw⟩
    have TW := Lib.hid htw; clear htw MD
    obtain ⟨Ax, cx, rfl, hrx⟩ := Own.rs TW.out.r
    have RX := Lib.hid hrx
    have hxc := hrx.cap; have hxm := hrx.max
    have B1 := Lib.hid TW.out.f.below
    have HTR : Hid (TRd w1 g T) := TW.out.f.rd
    have HKT : Hid (KnT w1 g T (okIds T ids)) := ⟨TW.out.f.rd, TG.out.i.parts, TG.out.i.kinds, by omega, okIds_in⟩
    have HSL : Hid ((sortU (okIds T ids)).length ≤ 1000) := by
      have := up_in (T := T) (sortU_up (okIds T ids)) (fun x hx => okIds_in x ((sortU_mem _ _).1 hx))
      show _ ≤ _
      omega
    clear hrx
    obtain ⟨t, hTl⟩ : ∃ t, t = T.length := ⟨_, rfl⟩
    have HTL := Lib.hid hTl
    rw [← hTl] at hT30 hxc ⊢
    clear hTl
    go_wp2_with fail
    refine (Kn1.new w1 g T w1 (Below.refl _ _)).mono ?_
    rintro e w2 ⟨s, rfl, k2, g2, _, _⟩
    have K2 := Lib.hid k2; clear k2 g2
    go_wp2_with fail
    refine (K2.out.learn HTR.out TG.out.i.kinds (HI.out.mono (below_both B1.out K2.out.bel)) HF.out (by omega)).mono ?_
    rintro e w3 ⟨rfl, k3, _⟩
    rw [List.nil_append, Nat.zero_add] at k3
    have K3 := Lib.hid k3; clear k3
    go_wp2_with fail
    refine (why_any w1 g s m T (okIds T ids) id w3 K3.out HKT.out HID.out (by omega) HSL.out).mono ?_
    rintro e w4 ⟨A4, c4, ws, rfl, i4, k4, hy, hn⟩
    have I4 := Lib.hid i4; have K4 := Lib.hid k4; have HY := Lib.hid hy; have HN := Lib.hid hn
    have hc4 := i4.cap; have hm4 := i4.max
    have B4 := Lib.hid (below_both B1.out k4.bel)
    clear i4 k4 hy hn
    have TAIL0 : ∀ (P : Prop), ¬ derB T (okIds T ids) id → ws = [] := fun P q => HN.out q
    have HAll := Lib.hid (fun wq (hq : Gr w4 wq) => refAll_any Ax T.length cx T B m e ids wq (RX.out.mono ((K4.out.gr hq).bel)) TG.out.i.parts TG.out.i.kinds (by have := HTL.out; omega) (HI.out.mono (B4.out.trans (hq.mono (by have := B4.out.size; exact this)))))
    rw [← HTL.out] at HAll
    have HTE := Lib.hid (all_ok TG.out.i.parts ids)
    have HDL : Hid ((allL T ids).length = t + 1) := by show _ = _; rw [HTE.out.1, HTL.out]
    obtain ⟨d, hd⟩ : ∃ d, d = allL T ids := ⟨_, rfl⟩
    rw [← hd] at HAll HTE HDL
    clear hd TAIL0
    by_cases h1 : id < 1
    · have t1 : decide (id < 1) = true := decide_eq_true h1
      obtain rfl : ws = [] := HN.out (fun q => by have := q.1; unfold outside at this; simp at this; omega)
      simp only [List.length_nil]
      clear h1
      go_wp2_with fail
      refine (HAL.out _).mono ?_
      rintro e w5 ⟨rfl, g5⟩
      have G5 := Lib.hid g5; clear g5
      go_wp2_with fail
      go_ret
      exact ⟨rfl, below_both B4.out G5.out⟩
    · have t1 : decide (id < 1) = false := decide_eq_false h1
      by_cases h2 : (t : Int) < id
      · have t2 : decide ((t : Int) < id) = true := decide_eq_true h2
        obtain rfl : ws = [] := HN.out (fun q => by have := q.1; have := HTL.out; unfold outside at *; simp at *; omega)
        simp only [List.length_nil]
        clear h1 h2
        go_wp2_with fail
        refine (HAL.out _).mono ?_
        rintro e w5 ⟨rfl, g5⟩
        have G5 := Lib.hid g5; clear g5
        go_wp2_with fail
        go_ret
        exact ⟨rfl, below_both B4.out G5.out⟩
      · have t2 : decide ((t : Int) < id) = false := decide_eq_false h2
        obtain ⟨k, rfl⟩ : ∃ k : Nat, id = (k : Int) := ⟨id.toNat, by omega⟩
        have hkt : k ≤ t := by omega
        have HOU : Hid (outside T.length (k : Int) = false) := by have := HTL.out; show _ = _; unfold outside; simp; omega
        have hk1 : (k : Int) < (t : Int) + 1 := by omega
        clear h1 h2
        go_wp2_with fail
        refine (HAll.out w4 (Gr.refl _)).mono ?_
        rintro e w5 ⟨D, dc, rfl, s5, g5⟩
        rw [HDL.out] at s5 ⊢
        have hd1 := s5.cap; have hd2 := s5.max
        obtain ⟨bd, od, rfl, hdc⟩ := s5.addr (by omega)
        have ck := hdc k _ (boolc_at (by rw [HDL.out]; omega))
        have G5 := Lib.hid g5
        clear s5 g5 hdc
        cases hdk : dAt d k with
        | false =>
          rw [hdk] at ck
          obtain rfl : ws = [] := HN.out (fun q => by
            have := (HTE.out.2 k).2 q.2
            rw [hdk] at this
            cases this)
          simp only [List.length_nil]
          clear hdk
          go_wp2_with fail
          refine (HAL.out _).mono ?_
          rintro e w6 ⟨rfl, g6⟩
          have G6 := Lib.hid g6; clear g6
          go_wp2_with fail
          go_ret
          exact ⟨rfl, below_both (below_both B4.out G5.out) G6.out⟩
        | true =>
          rw [hdk] at ck
          have WO : Hid (WhyOk T (okIds T ids) k ws) := HY.out ⟨HOU.out, (HTE.out.2 k).1 hdk⟩
          clear hdk
          have hwl : ws.length ≤ 1000 := by
            have := up_in (T := T) WO.out.1 (fun x hx => okIds_in x (WO.out.2.1 x hx))
            have := HTL.out
            omega
          obtain ⟨q, hq⟩ : ∃ q, q = ws.length := ⟨_, rfl⟩
          rw [← hq] at I4 hc4 hwl ⊢
          have B5 := Lib.hid (below_both B4.out G5.out)
          have HHas := Lib.hid (refHas16_any B A4 m e q c4 ids ws w5 (HI.out.mono B5.out) (I4.out.mono G5.out) (fun z hz => (ok_mem.1 (WO.out.2.1 z hz)).1))
          have HLE := Lib.hid (refLeast_any Ax A4 t cx q c4 T ws (okIds T ids) k w5 (by rw [HTL.out]; exact RX.out.mono (below_both K4.out.bel G5.out)) TG.out.i.parts TG.out.i.kinds (by omega) (I4.out.mono G5.out) (by omega) hkt WO.out)
          clear hq
          go_wp2_with fail
          refine HHas.out.mono ?_
          rintro e w6 ⟨rfl, rfl⟩
          go_wp2_with fail
          refine HLE.out.mono ?_
          rintro e w7 ⟨rfl, g7⟩
          have G7 := Lib.hid g7; clear g7
          go_wp2_with fail
          refine (HAL.out _).mono ?_
          rintro e w8 ⟨rfl, g8⟩
          have G8 := Lib.hid g8; clear g8
          go_wp2_with fail
          go_ret
          exact ⟨rfl, below_both (below_both B5.out G7.out) G8.out⟩
  · have hlf : light16 L m = false := by simpa using hlt
    rw [hlf] at HLI
    clear h hok hi hf hlt hlf
    go_enter Try.func4, Try.ntmps4
    go_wp2_with fail
    refine HLI.out.mono ?_
    rintro e w0 ⟨rfl, rfl⟩
    go_wp2_with fail
    refine (HAL.out _).mono ?_
    rintro e w1 ⟨rfl, g1⟩
    have G1 := Lib.hid g1; clear g1
    go_wp2_with fail
    go_ret
    exact ⟨rfl, G1.out⟩
end Go.Proofs.Ythlnoaalhojphaa
