/- The law TermPlays, walked: the loops. No condition. -/
import Derived.Test.YthlnoaalhojphaaDoorObPlayD
import Derived.Outline
namespace Go.Proofs.YthlnoaalhojphaaDoor
open Go.RowKit
set_option linter.unusedVariables false
set_option maxRecDepth 100000 in
set_option maxHeartbeats 2000000 in
theorem termPlays_walk (A : Option Addr) (n c : Nat) (L : List Ac) (w : World) (h : Rs Ac.cells 4 w A n c L) (hok : ∀ x ∈ L, x.ok) :
    Calls Tryd.prog 3 #[.slice A n c] w fun e w' => e = .returned (.bool true) ∧ Below w.heap.size w w' := by
  have HLI := Lib.hid (light15_any A n c L w h hok)
  have HAL := Lib.hid alive15_any
  have hmax := h.max
  have hcap := h.cap
  cases hlt : lightA L with
  | false =>
    rw [hlt] at HLI
    clear h hok hlt
    go_enter Tryd.func3, Tryd.ntmps3
    go_wp2_with fail
    refine HLI.out.mono ?_
    rintro e w1 ⟨rfl, rfl⟩
    go_wp2_with fail
    refine (HAL.out _).mono ?_
    rintro e w2 ⟨rfl, b2⟩
    go_wp2_with fail
    go_ret
    exact ⟨rfl, b2⟩
  | true =>
    rw [hlt] at HLI
    have hsm := light_parts hlt
    have hln : L.length = n := h.1
    have HG : Hid (∀ k, k ≤ 1000 → TGood (madeT (L.take k)) k) := madeT_good L hok
    have HS : Hid (∀ k x, L[k]? = some x → madeT (L.take (k + 1)) = stepT (madeT (L.take k)) x) := madeT_snoc L
    have TG := Lib.hid (madeT_all L hok (by omega))
    have TK := Lib.hid (madeT_tc L hsm.2)
    have HL := Lib.hid hln
    have HH := Lib.hid h; have HOK := Lib.hid hok
    have hT60 : (madeT L).length ≤ 60 := by have := TG.out.l; omega
    have hn60 : n ≤ 60 := by omega
    clear h hok hlt hsm hln
    go_enter Tryd.func3, Tryd.ntmps3
    go_wp2_with fail
    refine HLI.out.mono ?_
    rintro e w0 ⟨rfl, rfl⟩
    go_wp2_with fail
    refine (termNew_any w).mono ?_
    rintro e w1 ⟨g, bm, rfl, hf0, hg0⟩
    have HF0 := Lib.hid hf0
    clear hf0 hg0
    go_wp2_with fail
    go_loopw [4, 5] (fun x i wr => ∃ (k : Nat) (vl vs : Value), k ≤ n ∧ i = .int .i64 k ∧ Two w wr g bm (madeT (L.take k)) vl vs x) (fun _ i _ => n - (Go.RowKit.intOf i).toNat)
    case atStart => exact ⟨0, _, _, Nat.zero_le _, rfl, HF0.out, Own.nil' HF0.out.below _ _⟩
    case round =>
      obtain ⟨k, vl, vs, hk, rfl, htw⟩ := hrel
      have HT := Lib.hid htw; clear htw HF0
      by_cases hlt : k < n
      · obtain ⟨b, o, y, rfl, hy, c0, c1, c2, c3⟩ := Ac.row (HH.out.mono HT.out.f.below) hlt
        have HY := Lib.hid hy; clear hy
        have hgk := HG.out k (by omega)
        have hgk1 := HG.out (k + 1) (by omega)
        rw [HS.out k y HY.out] at hgk1
        have hle1 := hgk1.l
        have HO := Lib.hid (refOf_any w (madeT (L.take k)) u4 y.k y.a y.b y.s wr HT.out.r (Nat.le_trans hgk.l (by omega)) hgk.z)
        have HOKT : Hid (TOk (madeT (L.take k))) := hgk.i.ok (Nat.le_trans hgk.l (by omega))
        have hss : y.s.size ≤ maxLen := (HOK.out y (List.mem_of_getElem? HY.out)).2.2.2
        have HSS := Lib.hid hss
        have t0 : decide ((k : Int) < (n : Int)) = true := decide_eq_true (by omega)
        unfold stepT at hle1
        have HLE1 := Lib.hid hle1
        clear hgk hgk1 hss hle1
        go_wp2_with fail
        refine HO.out.mono ?_
        rintro e w2 ⟨vx', rfl, hr2, ht2⟩
        have HF2 := Lib.hid (HT.out.f.turn HT.out.r ht2 hr2.below)
        have HR2 := Lib.hid hr2
        obtain ⟨b', o', y', e', hy', d0, d1, d2, d3⟩ := Ac.row (HH.out.mono HF2.out.below) hlt
        obtain ⟨rfl, rfl⟩ : b = b' ∧ o = o' := by injection e' with e'; injection e' with e1 e2; exact ⟨e1, e2⟩
        obtain rfl : y = y' := Option.some.inj (HY.out.symm.trans hy')
        have HD := Lib.hid (do_any w g (madeT (L.take k)) vl vs bm y.k y.a y.b y.s w2 HF2.out HOKT.out HSS.out)
        obtain ⟨A5, c5, rfl, _⟩ := Own.rs hr2
        clear hr2 ht2 c0 c1 c2 c3 HO hy' e'
        go_wp2_with fail
        refine HD.out.mono ?_
        rintro e w3 ⟨vl', vs', rfl, hf3, hc3⟩
        have HF3 := Lib.hid hf3
        have HR3 := Lib.hid (HR2.out.chg HF2.out hc3 hf3.below)
        have HLN := Lib.hid (len_any g _ w3 hf3.rd)
        clear hf3 hc3 d0 d1 d2 d3 HD
        have hq := HS.out k y HY.out
        unfold stepT at hq
        generalize hdq : doT (madeT (L.take k)) y.k y.a y.b y.s = dq at *
        have HQ := Lib.hid hq
        clear hdq hq
        go_wp2_with fail
        refine HLN.out.mono ?_
        rintro e w4 ⟨rfl, h4⟩
        obtain rfl : w3 = w4 := h4
        go_wp2_with fail
        refine ⟨⟨k + 1, vl', vs', hlt, by simp, ?_⟩, by simp [Go.RowKit.intOf]; omega⟩
        rw [HQ.out]
        exact ⟨HF3.out, HR3.out⟩
      · obtain rfl : k = n := by omega
        have t0 : decide ((k : Int) < (k : Int)) = false := by simp
        have hT := HT.out
        rw [show L.take k = L from List.take_of_length_le (by rw [HL.out]; exact Nat.le_refl _)] at hT
        have TF := Lib.hid hT; clear hT HT
        generalize madeT L = T at *
        obtain ⟨Ax, cx, rfl, hrx⟩ := Own.rs TF.out.r
        have BT : Hid (Both wr g Ax T.length cx T) := ⟨TF.out.f.rd, TF.out.f.srd, hrx⟩
        have HBW := Lib.hid TF.out.f.below
        have hxc := hrx.cap; have hxm := hrx.max
        clear HLI HG HS hrx
        obtain ⟨wx, hwx⟩ : ∃ wx : World, wx = wr := ⟨_, rfl⟩
        subst hwx
        go_wp2_with fail
        go_loopw [8] (fun i wr => ∃ j : Nat, j ≤ T.length + 3 ∧ i = .int .i64 ((j : Int) - 1) ∧ Gr wx wr) (fun i _ => T.length + 3 - (Go.RowKit.intOf i + 1).toNat)
        case atStart => exact ⟨0, by omega, rfl, Gr.refl _⟩
        case round =>
          obtain ⟨j, hj, rfl, hg⟩ := hrel
          have HGR := Lib.hid hg; clear hg
          have hw1 : IntKind.i64.wrap ((T.length : Int) + 1) = (T.length : Int) + 1 := IntWalk.i64_in _ (by omega)
          have hw2 : IntKind.i64.wrap ((j : Int) - 1 + 1) = (j : Int) - 1 + 1 := IntWalk.i64_in _ (by omega)
          by_cases hlj : j < T.length + 3
          · have t1 : decide ((j : Int) - 1 ≤ (T.length : Int) + 1) = true := decide_eq_true (by omega)
            have HLK := Lib.hid (like_any g Ax T.length cx T ((j : Int) - 1) wr (BT.out.mono HGR.out) TG.out.i.parts TG.out.i.kinds (TK.out.brief (by omega)) TK.out (by omega) ⟨by omega, by omega⟩)
            go_wp2_with fail
            refine HLK.out.mono ?_
            rintro e w2 ⟨rfl, g2⟩
            have G2 := Lib.hid (HGR.out.trans g2); clear g2
            go_wp2_with fail
            exact ⟨⟨j + 1, by omega, by go_num, G2.out⟩, by simp [Go.RowKit.intOf]; omega⟩
          · obtain rfl : j = T.length + 3 := by omega
            have t1 : decide (((T.length + 3 : Nat) : Int) - 1 ≤ (T.length : Int) + 1) = false := decide_eq_false (by omega)
            have t2 : decide ((T.length : Int) + 3 - 1 ≤ (T.length : Int) + 1) = false := decide_eq_false (by omega)
            go_wp2_with fail
            refine (HAL.out _).mono ?_
            rintro e w4 ⟨rfl, b4⟩
            have B4 := Lib.hid (below_both HBW.out (HGR.out.trans b4)); clear b4
            go_wp2_with fail
            go_ret
            exact ⟨rfl, B4.out⟩
end Go.Proofs.YthlnoaalhojphaaDoor
