/- Own texts of this claim, one behind the other. No condition. -/
import Derived.Test.YtfemhhjmfckicaaDoorObPkY
import Derived.Test.YtfemhhjmfckicaaDoorObPkZD

/- LeafOnce: the walk. No condition. -/
namespace Go.Proofs.YtfemhhjmfckicaaDoor
open Go.RowKit
set_option linter.unusedVariables false
set_option linter.unusedSimpArgs false
set_option maxRecDepth 100000 in
set_option maxHeartbeats 8000000 in
theorem leafOnce_walk (A B : Option Addr) (n c m d : Nat) (hs : List (List UInt8)) (L : List ChV) (w : World) (h : Ws w A n c hs) (hz : ∀ p ∈ hs, p.length ≤ 9223372036854775807) (hL : Chg w B m d L) (hT : U8 w) :
    Calls Tryd.prog 3 #[.slice A n c, .slice B m d] w fun e w' => e = .returned (.bool true) ∧ Below w.heap.size w w' := by
  show Calls _ _ _ _ fun e w' => e = .returned (.bool true) ∧ Gr w w'
  have hmax := h.max
  have hcap := h.cap
  have hmm := hL.max
  have HLT := Lib.hid (light31_any A B n c m d hs L w h hz hL)
  have HAL : Hid (∀ wr, Gr w wr → Calls Tryd.prog 7 #[] wr fun e w' => e = .returned (.bool true) ∧ Gr wr w') := fun wr g => alive31_any wr (hT.mono g)
  have HH := Lib.hid h; have HT := Lib.hid hT; have HC := Lib.hid hL
  have HL := Lib.hid h.len
  have HL2 := Lib.hid hL.1
  clear h hT hz hL
  go_enter Tryd.func3, Tryd.ntmps3
  go_wp2_with fail
  refine HLT.out.mono ?_
  rintro e w1 ⟨b, rfl, hb, g1⟩
  have G1 := Lib.hid g1; clear g1
  cases b with
  | false =>
    go_wp2_with fail
    refine (HAL.out _ G1.out).mono ?_
    rintro e w2 ⟨rfl, g2⟩
    have G2 := Lib.hid (Gr.trans G1.out g2); clear g2
    go_wp2_with fail
    go_ret
    exact ⟨rfl, G2.out⟩
  | true =>
    have hlt := hb rfl
    have HLP := Lib.hid hlt
    have hn70 : n ≤ 70 := by rw [← HL.out]; exact hlt.h
    have hm40 : m ≤ 40 := by rw [← HL2.out]; exact hlt.l
    clear hb hlt
    go_wp2_with fail
    go_loopw [5] (fun i wr => ∃ k : Nat, k ≤ n ∧ i = .int .i64 k ∧ wr = w1 ∧ ∀ j (hj : j < hs.length), j < k → hs[j] ≠ [] → findH hs hs[j] = (j : Int)) (fun i _ => n - (intOf i).toNat)
    case atStart => exact ⟨0, Nat.zero_le _, rfl, rfl, fun j hj q => absurd q (by omega)⟩
    case round =>
      obtain ⟨k, hk, rfl, rfl, hall⟩ := hrel
      have HA := Lib.hid hall; clear hall
      by_cases hkn : k < n
      · have hkl : k < hs.length := by rw [HL.out]; exact hkn
        obtain ⟨b, o, rfl, hcc⟩ := Ws.addr HH.out (by omega)
        have F2 := Lib.hid (leafFind_any _ n c hs hs[k] wr (HH.out.mono G1.out) (by omega))
        have HST : Hid ((hs[k] ≠ [] → findH hs hs[k] = (k : Int)) → ∀ j (hj : j < hs.length), j < k + 1 → hs[j] ≠ [] → findH hs hs[j] = (j : Int)) := fun q j hj hjk h0 => by
          by_cases e : j = k
          · subst e; exact q h0
          · exact HA.out j hj (by omega) h0
        have c1 := (Below.cell G1.out (World.block_lt_of_cell? w _ (hcc k hkl))).trans (hcc k hkl)
        clear hcc
        generalize hs[k] = x at *
        obtain ⟨xs, hxs⟩ : ∃ xs : ByteArray, xs = ⟨x.toArray⟩ := ⟨_, rfl⟩
        rw [← hxs] at c1
        have e1 : strc x = .string xs := by rw [hxs]; rfl
        rw [e1] at F2
        have hxl : xs.toList = x := by rw [hxs, ByteArray.toList_eq]
        clear hxs e1
        by_cases h0 : x = []
        · have he : xs.toList.isEmpty = true := by rw [hxl, h0]; rfl
          have HS2 := Lib.hid (HST.out (fun q => absurd h0 q))
          clear hxl h0 F2 HST
          go_wp2_with fail
          refine ⟨⟨k + 1, by omega, by first | trivial | go_num, by first | trivial | rfl, HS2.out⟩, ?_⟩
          show n - ((k : Int) + 1).toNat < n - (k : Int).toNat
          omega
        · have he : xs.toList.isEmpty = false := by
            rw [hxl]
            cases x with
            | nil => exact absurd rfl h0
            | cons a b => rfl
          obtain ⟨q, hq⟩ : ∃ q, q = findH hs x := ⟨_, rfl⟩
          rw [← hq] at F2 HST
          clear hxl hq
          by_cases hqk : q = (k : Int)
          · have t1 : (q != (k : Int)) = false := by rw [hqk]; simp
            have HS2 := Lib.hid (HST.out (fun _ => hqk))
            clear h0 hqk HST
            go_wp2_with fail
            refine F2.out.mono ?_
            rintro e w3 ⟨rfl, rfl⟩
            go_wp2_with fail
            refine ⟨⟨k + 1, by omega, by first | trivial | go_num, by first | trivial | rfl, HS2.out⟩, ?_⟩
            show n - ((k : Int) + 1).toNat < n - (k : Int).toNat
            omega
          · have t1 : (q != (k : Int)) = true := by rw [bne_iff_ne]; exact hqk
            clear h0 hqk HST
            go_wp2_with fail
            refine F2.out.mono ?_
            rintro e w3 ⟨rfl, rfl⟩
            go_wp2_with fail
            refine (HAL.out _ G1.out).mono ?_
            rintro e w2 ⟨rfl, g2⟩
            have G2 := Lib.hid (Gr.trans G1.out g2); clear g2
            go_wp2_with fail
            go_ret
            exact ⟨rfl, G2.out⟩
      · obtain rfl : k = n := by omega
        have HON := Lib.hid (once_of_find (hs := hs) fun i hi => HA.out i hi (by rw [HL.out] at hi; exact hi))
        have HPL := Lib.hid (plan_any A B k c m d hs L wr (HH.out.mono G1.out) (HC.out.mono G1.out) (by omega) (by omega) (fun x hx => by have := (HLP.out.hl x hx).1; omega) (HT.out.mono G1.out))
        clear HA
        go_wp2_with fail
        refine HPL.out.mono ?_
        rintro e w2 ⟨v, T, rfl, hb0, hT, ho, _⟩
        obtain ⟨A2, c2, rfl, tc⟩ := tcs_of ho
        have G2 : Hid (Gr w w2) := Gr.trans G1.out ho.below
        have TC := Lib.hid tc
        have hcp := tc.2.1; have hmx := tc.2.2.1
        have HOK := Lib.hid (fun q => plan_ok (M := 350) (hs := hs) m (L.map ChV.d) (by rw [List.length_map, HL2.out]) q)
        have HB0 := Lib.hid hb0; have HTT := Lib.hid hT
        clear ho tc hb0 hT HPL
        generalize planC 350 (hs, []) (L.map ChV.d) = pr at *
        obtain ⟨st, q⟩ := pr
        by_cases hq : q = 0
        · subst hq
          have HPO := Lib.hid (HOK.out rfl)
          have HTD := Lib.hid (HTT.out rfl)
          clear HOK HB0 HTT
          obtain ⟨p, hp⟩ : ∃ p, p = T.map TcV.d := ⟨_, rfl⟩
          obtain ⟨tl, htl⟩ : ∃ tl, tl = T.length := ⟨_, rfl⟩
          rw [← hp] at TC HTD
          rw [← htl] at TC hcp ⊢
          have hpl : p.length = tl := TC.out.1
          have HIN : Hid (∀ i (hi : i < p.length), p[i].s < k) := fun i hi => by
            have h1 := out_in HPO.out.log p[i] (by rw [← HTD.out]; exact List.getElem_mem hi)
            rw [HL.out] at h1; exact h1
          have HUP : Hid (∀ i (hi : i + 1 < p.length), p[i].s < p[i + 1].s) := fun i hi => by
            have h1 := out_up st.2
            rw [← HTD.out] at h1
            exact List.pairwise_iff_getElem.1 h1 i (i + 1) (by omega) hi (by omega)
          have HOV : Hid (overH hs p = st.1) := by
            show _ = _
            rw [HTD.out]; exact out_over HPO.out.log
          clear hp htl HTD
          simp only
          have OE := Lib.hid ((Blk.new w2 9 #[]).own (w0 := w2) (size := 1) (n := 0) (Nat.le_refl _) (Gr.alloc w2 _) rfl (by decide))
          have W3 : Hid (Sl (w2.alloc (.cells #[] 9)) A k c 1 (hs.map strc)) := (HH.out.mono G2.out).mono (Gr.alloc w2 _)
          go_wp2_with (at_builtin; refine wpList_cat rfl (.tmp 55) (.tmp 56) 22 rfl tWords rfl OE.out rfl W3.out (by intro u hu; obtain ⟨x, _, rfl⟩ := List.mem_map.1 hu; rfl) (by omega) ?_; intro v4 w4 o4; have O4 := Lib.hid o4; clear o4)
          have o4' : Own w2 w4 9 1 v4 k (hs.map strc) := by have := O4.out; simpa using this
          obtain ⟨A5, c5, g5, rest, rfl, tu⟩ := Tu.start o4'
          have TU := Lib.hid tu
          have hc5 := tu.ws.cap; have hm5 := tu.ws.max
          clear o4' tu O4 OE W3
          go_wp2_with fail
          go_loopw [9] (fun i wq => ∃ j : Nat, j ≤ tl ∧ i = .int .i64 j ∧ Tu w2 wq A5 k c5 g5 rest (overH hs (p.take j)) (overH hs (p.take j))) (fun i _ => tl - (intOf i).toNat)
          case atStart => exact ⟨0, Nat.zero_le _, rfl, TU.out⟩
          case round =>
            obtain ⟨j, hj, rfl, tu⟩ := hrel
            by_cases hjt : j < tl
            · have hjl : j < p.length := by omega
              obtain ⟨b, o, rfl, c0, c1⟩ := (TC.out.mono tu.gr).2.2.2 j hjl
              have hsk := HIN.out j hjl
              have HTK := Lib.hid (over_take (hs := hs) hjl)
              have hol : (overH hs (p.take j)).length = k := by rw [over_len]; exact HL.out
              have HSET : Hid (∀ wq, Gr wr wq → Tu w2 (wq.setCell ⟨g5, p[j].s, none⟩ (strc p[j].h)) A5 k c5 g5 rest (overH hs (p.take (j + 1))) (overH hs (p.take (j + 1)))) := fun wq hg => by
                have := (tu.mono hg).set (i := p[j].s) (by omega) p[j].h
                rwa [← HTK.out] at this
              have HY : Hid (∀ wq, Gr wr wq → wq.frozen? ⟨g5, p[j].s, none⟩ = false ∧ ∃ old, wq.cell? ⟨g5, p[j].s, none⟩ = some old) := fun wq hg => ⟨(tu.mono hg).free (by omega) p[j].s, _, (tu.mono hg).cell (i := p[j].s) (by omega)⟩
              have hA5 := (tu.bl (by omega)).1
              subst hA5
              have t1 : decide ((p[j].s : Int) < 0) = false := decide_eq_false (by omega)
              have t2 : decide ((k : Int) ≤ (p[j].s : Int)) = false := decide_eq_false (by omega)
              have HPREV : Hid (∀ jj, j = jj + 1 → ∃ s' : Nat, wr.cell? ⟨b, o + jj * 4, none⟩ = some (.int .i64 (s' : Int)) ∧ s' < p[j].s) := fun jj e => by
                subst e
                obtain ⟨b', o', e', c0', _⟩ := (TC.out.mono tu.gr).2.2.2 jj (by omega)
                injection e' with e'
                injection e' with e1 e2
                subst e1 e2
                exact ⟨_, c0', HUP.out jj hjl⟩
              clear tu HTK
              generalize p[j] = x at *
              obtain ⟨xs, xh, xv, xg⟩ := x
              simp only at c0 c1 hsk t1 t2
              obtain ⟨sx, hsx⟩ : ∃ sx : ByteArray, strc xh = .string sx := ⟨_, rfl⟩
              replace HSET : Hid (∀ wq, Gr wr wq → Tu w2 (wq.setCell ⟨g5, xs, none⟩ (strc xh)) (some ⟨g5, 0, none⟩) k c5 g5 rest (overH hs (p.take (j + 1))) (overH hs (p.take (j + 1)))) := HSET.out
              replace HY : Hid (∀ wq, Gr wr wq → wq.frozen? ⟨g5, xs, none⟩ = false ∧ ∃ old, wq.cell? ⟨g5, xs, none⟩ = some old) := HY.out
              rw [hsx] at c1 HSET
              clear hsx
              by_cases hj0 : j = 0
              · have t3 : decide ((0 : Int) < (j : Int)) = false := decide_eq_false (by omega)
                have t5 : decide (0 < j) = false := decide_eq_false (by omega)
                have t6 : decide (k ≤ xs) = false := decide_eq_false (by omega)
                clear hj0 HPREV
                go_wp2_with fail
                refine wp_region_grow (by kernel_rfl) [0, 0, 3, 7, 15, 31, 63, 127, 127, 511, 1023, 2047, 127, 4223, 16383, 32767, 65535, 131071, 262143, 524287, 1048575, 1048575, 3145727, 8388607, 16777215, 33554431, 1048575, 1048575, 202375167, 470810623, 1007681535, 2147483647, 4294967295, 8589934591] [.p 0, .p 1, .p 2, .p 3, .q 4, .p 5, .p 6, .p 7, .p 8, .p 9, .p 10, .p 12, .p 13, .q 11, .p 14, .p 15, .p 16, .p 17, .p 18, .p 19, .p 20, .p 21, .p 22, .p 23, .p 24, .p 26, .p 27, .p 28, .p 29, .q 25, .q 30, .p 31, .p 32, .p 33] (by kernel_rfl) (by simp only [mkAll]) ?_
                refine wpG_pe rfl rfl ?_
                apply Exists.intro
                refine ⟨fun wq => ?_, ?_⟩
                · unfold plainAt
                  go_simp
                  first | exact rfl | exact ⟨rfl, rfl⟩
                go_simp
                refine wpG_pe rfl rfl ?_
                apply Exists.intro
                refine ⟨fun wq => ?_, ?_⟩
                · unfold plainAt
                  go_simp
                  first | exact rfl | exact ⟨rfl, rfl⟩
                go_simp
                refine wpG_pe rfl rfl ?_
                apply Exists.intro
                refine ⟨fun wq => ?_, ?_⟩
                · unfold plainAt
                  go_simp
                  first | exact rfl | exact ⟨rfl, rfl⟩
                go_simp
                refine wpG_pe rfl rfl ?_
                apply Exists.intro
                refine ⟨fun wq => ?_, ?_⟩
                · unfold plainAt
                  go_simp
                  first | exact rfl | exact ⟨rfl, rfl⟩
                go_simp
                refine wpG_qe rfl rfl ?_
                apply Exists.intro
                refine ⟨fun wq hq => ?_, ?_⟩
                · have c9 := (Below.cell hq (World.block_lt_of_cell? wr _ c0)).trans c0
                  unfold plainAt
                  go_simp
                  first | exact rfl | exact ⟨rfl, rfl⟩
                go_simp
                refine wpG_pe rfl rfl ?_
                apply Exists.intro
                refine ⟨fun wq => ?_, ?_⟩
                · unfold plainAt
                  go_simp
                  first | exact rfl | exact ⟨rfl, rfl⟩
                go_simp
                refine wpG_pe rfl rfl ?_
                apply Exists.intro
                refine ⟨fun wq => ?_, ?_⟩
                · unfold plainAt
                  go_simp
                  first | exact rfl | exact ⟨rfl, rfl⟩
                go_simp
                refine wpG_pe rfl rfl ?_
                apply Exists.intro
                refine ⟨fun wq => ?_, ?_⟩
                · unfold plainAt
                  go_simp
                  first | exact rfl | exact ⟨rfl, rfl⟩
                go_simp
                refine wpG_pe rfl rfl ?_
                apply Exists.intro
                refine ⟨fun wq => ?_, ?_⟩
                · unfold plainAt
                  go_simp
                  first | exact rfl | exact ⟨rfl, rfl⟩
                go_simp
                refine wpG_pe rfl rfl ?_
                apply Exists.intro
                refine ⟨fun wq => ?_, ?_⟩
                · unfold plainAt
                  go_simp
                  first | exact rfl | exact ⟨rfl, rfl⟩
                go_simp
                refine wpG_pe rfl rfl ?_
                apply Exists.intro
                refine ⟨fun wq => ?_, ?_⟩
                · unfold plainAt
                  go_simp
                  first | exact rfl | exact ⟨rfl, rfl⟩
                go_simp
                refine wpG_pe rfl rfl ?_
                apply Exists.intro
                refine ⟨fun wq => ?_, ?_⟩
                · unfold plainAt
                  go_simp
                  first | exact rfl | exact ⟨rfl, rfl⟩
                go_simp
                refine wpG_pe rfl rfl ?_
                apply Exists.intro
                refine ⟨fun wq => ?_, ?_⟩
                · unfold plainAt
                  go_simp
                  first | exact rfl | exact ⟨rfl, rfl⟩
                go_simp
                refine wpG_qe rfl rfl ?_
                apply Exists.intro
                refine ⟨fun wq hq => ?_, ?_⟩
                · have c9 := (Below.cell hq (World.block_lt_of_cell? wr _ c0)).trans c0
                  unfold plainAt
                  go_simp
                  first | exact rfl | exact ⟨rfl, rfl⟩
                go_simp
                refine wpG_pe rfl rfl ?_
                apply Exists.intro
                refine ⟨fun wq => ?_, ?_⟩
                · unfold plainAt
                  go_simp
                  first | exact rfl | exact ⟨rfl, rfl⟩
                go_simp
                refine wpG_pe rfl rfl ?_
                apply Exists.intro
                refine ⟨fun wq => ?_, ?_⟩
                · unfold plainAt
                  go_simp
                  first | exact rfl | exact ⟨rfl, rfl⟩
                go_simp
                refine wpG_pe rfl rfl ?_
                apply Exists.intro
                refine ⟨fun wq => ?_, ?_⟩
                · unfold plainAt
                  go_simp
                  first | exact rfl | exact ⟨rfl, rfl⟩
                go_simp
                refine wpG_pe rfl rfl ?_
                apply Exists.intro
                refine ⟨fun wq => ?_, ?_⟩
                · unfold plainAt
                  go_simp
                  first | exact rfl | exact ⟨rfl, rfl⟩
                go_simp
                refine wpG_pe rfl rfl ?_
                apply Exists.intro
                refine ⟨fun wq => ?_, ?_⟩
                · unfold plainAt
                  go_simp
                  first | exact rfl | exact ⟨rfl, rfl⟩
                go_simp
                refine wpG_pe rfl rfl ?_
                apply Exists.intro
                refine ⟨fun wq => ?_, ?_⟩
                · unfold plainAt
                  go_simp
                  first | exact rfl | exact ⟨rfl, rfl⟩
                go_simp
                first | refine wpG_skip_p rfl rfl ?_ | refine wpG_skip_q rfl rfl ?_ | refine wpG_skip_c rfl rfl ?_
                go_simp
                first | refine wpG_skip_p rfl rfl ?_ | refine wpG_skip_q rfl rfl ?_ | refine wpG_skip_c rfl rfl ?_
                go_simp
                first | refine wpG_skip_p rfl rfl ?_ | refine wpG_skip_q rfl rfl ?_ | refine wpG_skip_c rfl rfl ?_
                go_simp
                first | refine wpG_skip_p rfl rfl ?_ | refine wpG_skip_q rfl rfl ?_ | refine wpG_skip_c rfl rfl ?_
                go_simp
                first | refine wpG_skip_p rfl rfl ?_ | refine wpG_skip_q rfl rfl ?_ | refine wpG_skip_c rfl rfl ?_
                go_simp
                first | refine wpG_skip_p rfl rfl ?_ | refine wpG_skip_q rfl rfl ?_ | refine wpG_skip_c rfl rfl ?_
                go_simp
                first | refine wpG_skip_p rfl rfl ?_ | refine wpG_skip_q rfl rfl ?_ | refine wpG_skip_c rfl rfl ?_
                go_simp
                first | refine wpG_skip_p rfl rfl ?_ | refine wpG_skip_q rfl rfl ?_ | refine wpG_skip_c rfl rfl ?_
                go_simp
                first | refine wpG_skip_p rfl rfl ?_ | refine wpG_skip_q rfl rfl ?_ | refine wpG_skip_c rfl rfl ?_
                go_simp
                first | refine wpG_skip_p rfl rfl ?_ | refine wpG_skip_q rfl rfl ?_ | refine wpG_skip_c rfl rfl ?_
                go_simp
                first | refine wpG_skip_p rfl rfl ?_ | refine wpG_skip_q rfl rfl ?_ | refine wpG_skip_c rfl rfl ?_
                go_simp
                first | refine wpG_skip_p rfl rfl ?_ | refine wpG_skip_q rfl rfl ?_ | refine wpG_skip_c rfl rfl ?_
                go_simp
                refine wpG_pe rfl rfl ?_
                apply Exists.intro
                refine ⟨fun wq => ?_, ?_⟩
                · unfold plainAt
                  go_simp
                  first | exact rfl | exact ⟨rfl, rfl⟩
                go_simp
                refine wpG_pe rfl rfl ?_
                apply Exists.intro
                refine ⟨fun wq => ?_, ?_⟩
                · unfold plainAt
                  go_simp
                  first | exact rfl | exact ⟨rfl, rfl⟩
                go_simp
                refine wpG_nil ?_
                intro wq gq0
                have gq : Gr wr wq := Gr.trans (Gr.drew wr) gq0
                clear gq0
                have c0w := (Below.cell gq (World.block_lt_of_cell? wr _ c0)).trans c0
                have c1w := (Below.cell gq (World.block_lt_of_cell? wr _ c1)).trans c1
                have y0w := (HY.out wq gq).1
                obtain ⟨old, y1w⟩ := (HY.out wq gq).2
                have HSW := Lib.hid (HSET.out wq gq)
                clear c0 c1 HY HSET gq
                go_upto_region 17 with fail
                refine wp_region_pre (by kernel_rfl) (fun w' => w'.cell? ⟨b, o + j * 4, none⟩ = some (.int .i64 (xs : Int)) ∧ w'.cell? ⟨b, o + j * 4 + 1, none⟩ = some (.string sx) ∧ w'.cell? ⟨g5, xs, none⟩ = some old ∧ w'.frozen? ⟨g5, xs, none⟩ = false) (fun i => i == 5 || i == 10) (fun i => i == 12) [0, 1, 2, 3, 4, 5, 6, 7, 8, 9, 10, 11] 1 (by kernel_rfl) (by kernel_rfl) (by kernel_rfl) ⟨c0w, c1w, y1w, y0w⟩ ?_
                refine wpPre_e rfl rfl ?_
                apply Exists.intro
                refine ⟨fun wq hq => ?_, ?_⟩
                · clear hq
                  unfold plainAt
                  go_simp
                  first | exact rfl | exact ⟨rfl, rfl⟩
                go_simp
                refine wpPre_e rfl rfl ?_
                apply Exists.intro
                refine ⟨fun wq hq => ?_, ?_⟩
                · clear hq
                  unfold plainAt
                  go_simp
                  first | exact rfl | exact ⟨rfl, rfl⟩
                go_simp
                refine wpPre_e rfl rfl ?_
                apply Exists.intro
                refine ⟨fun wq hq => ?_, ?_⟩
                · clear hq
                  unfold plainAt
                  go_simp
                  first | exact rfl | exact ⟨rfl, rfl⟩
                go_simp
                refine wpPre_e rfl rfl ?_
                apply Exists.intro
                refine ⟨fun wq hq => ?_, ?_⟩
                · clear hq
                  unfold plainAt
                  go_simp
                  first | exact rfl | exact ⟨rfl, rfl⟩
                go_simp
                refine wpPre_e rfl rfl ?_
                apply Exists.intro
                refine ⟨fun wq hq => ?_, ?_⟩
                · clear hq
                  unfold plainAt
                  go_simp
                  first | exact rfl | exact ⟨rfl, rfl⟩
                go_simp
                refine wpPre_e rfl rfl ?_
                apply Exists.intro
                refine ⟨fun wq hq => ?_, ?_⟩
                · replace hq := hq rfl
                  obtain ⟨z0, z1, z2, z3⟩ := hq
                  unfold plainAt
                  go_simp
                  first | exact rfl | exact ⟨rfl, rfl⟩
                go_simp
                refine wpPre_e rfl rfl ?_
                apply Exists.intro
                refine ⟨fun wq hq => ?_, ?_⟩
                · clear hq
                  unfold plainAt
                  go_simp
                  first | exact rfl | exact ⟨rfl, rfl⟩
                go_simp
                refine wpPre_e rfl rfl ?_
                apply Exists.intro
                refine ⟨fun wq hq => ?_, ?_⟩
                · clear hq
                  unfold plainAt
                  go_simp
                  first | exact rfl | exact ⟨rfl, rfl⟩
                go_simp
                refine wpPre_e rfl rfl ?_
                apply Exists.intro
                refine ⟨fun wq hq => ?_, ?_⟩
                · clear hq
                  unfold plainAt
                  go_simp
                  first | exact rfl | exact ⟨rfl, rfl⟩
                go_simp
                refine wpPre_e rfl rfl ?_
                apply Exists.intro
                refine ⟨fun wq hq => ?_, ?_⟩
                · clear hq
                  unfold plainAt
                  go_simp
                  first | exact rfl | exact ⟨rfl, rfl⟩
                go_simp
                refine wpPre_e rfl rfl ?_
                apply Exists.intro
                refine ⟨fun wq hq => ?_, ?_⟩
                · replace hq := hq rfl
                  obtain ⟨z0, z1, z2, z3⟩ := hq
                  unfold plainAt
                  go_simp
                  first | exact rfl | exact ⟨rfl, rfl⟩
                go_simp
                refine wpPre_e rfl rfl ?_
                apply Exists.intro
                refine ⟨fun wq hq => ?_, ?_⟩
                · clear hq
                  unfold plainAt
                  go_simp
                  first | exact rfl | exact ⟨rfl, rfl⟩
                go_simp
                refine wpPre_nil ?_
                refine wpRest_one (i := 12) (by kernel_rfl) rfl rfl ?_
                intro K hK
                go_simp
                refine hK _ _ (fun h => absurd h (by decide)) ?_
                clear hK
                go_simp
                refine wpRest_nil (by kernel_rfl) ?_
                go_wp2_with fail
                refine ⟨⟨j + 1, by omega, by first | trivial | go_num, HSW.out.mono (Gr.drew _)⟩, ?_⟩
                show tl - ((j : Int) + 1).toNat < tl - (j : Int).toNat
                omega
              · obtain ⟨jj, hjj⟩ : ∃ jj, j = jj + 1 := ⟨j - 1, by omega⟩
                have t3 : decide ((0 : Int) < (j : Int)) = true := decide_eq_true (by omega)
                have e1 : (j : Int) - 1 = (jj : Int) := by omega
                have ew : IntKind.i64.wrap (jj : Int) = jj := IntWalk.i64_in _ (by omega)
                obtain ⟨s', c0', hs'⟩ := HPREV.out jj hjj
                have hs2 : s' < xs := hs'
                have t4 : decide ((xs : Int) ≤ (s' : Int)) = false := decide_eq_false (by omega)
                have hjb : jj < tl := by omega
                have t5 : decide (0 < j) = true := decide_eq_true (by omega)
                have t6 : decide (k ≤ xs) = false := decide_eq_false (by omega)
                have t7 : decide (xs ≤ s') = false := decide_eq_false (by omega)
                clear hj0 HPREV hjj hs'
                go_wp2_with fail
                refine wp_region_grow (by kernel_rfl) [0, 0, 3, 7, 15, 31, 63, 127, 127, 511, 1023, 2047, 127, 4223, 16383, 32767, 65535, 131071, 262143, 524287, 1048575, 1048575, 3145727, 8388607, 16777215, 33554431, 1048575, 1048575, 202375167, 470810623, 1007681535, 2147483647, 4294967295, 8589934591] [.p 0, .p 1, .p 2, .p 3, .q 4, .p 5, .p 6, .p 7, .p 8, .p 9, .p 10, .p 12, .p 13, .q 11, .p 14, .p 15, .p 16, .p 17, .p 18, .p 19, .p 20, .p 21, .p 22, .p 23, .p 24, .p 26, .p 27, .p 28, .p 29, .q 25, .q 30, .p 31, .p 32, .p 33] (by kernel_rfl) (by simp only [mkAll]) ?_
                refine wpG_pe rfl rfl ?_
                apply Exists.intro
                refine ⟨fun wq => ?_, ?_⟩
                · unfold plainAt
                  go_simp
                  first | exact rfl | exact ⟨rfl, rfl⟩
                go_simp
                refine wpG_pe rfl rfl ?_
                apply Exists.intro
                refine ⟨fun wq => ?_, ?_⟩
                · unfold plainAt
                  go_simp
                  first | exact rfl | exact ⟨rfl, rfl⟩
                go_simp
                refine wpG_pe rfl rfl ?_
                apply Exists.intro
                refine ⟨fun wq => ?_, ?_⟩
                · unfold plainAt
                  go_simp
                  first | exact rfl | exact ⟨rfl, rfl⟩
                go_simp
                refine wpG_pe rfl rfl ?_
                apply Exists.intro
                refine ⟨fun wq => ?_, ?_⟩
                · unfold plainAt
                  go_simp
                  first | exact rfl | exact ⟨rfl, rfl⟩
                go_simp
                refine wpG_qe rfl rfl ?_
                apply Exists.intro
                refine ⟨fun wq hq => ?_, ?_⟩
                · have c9 := (Below.cell hq (World.block_lt_of_cell? wr _ c0)).trans c0
                  unfold plainAt
                  go_simp
                  first | exact rfl | exact ⟨rfl, rfl⟩
                go_simp
                refine wpG_pe rfl rfl ?_
                apply Exists.intro
                refine ⟨fun wq => ?_, ?_⟩
                · unfold plainAt
                  go_simp
                  first | exact rfl | exact ⟨rfl, rfl⟩
                go_simp
                refine wpG_pe rfl rfl ?_
                apply Exists.intro
                refine ⟨fun wq => ?_, ?_⟩
                · unfold plainAt
                  go_simp
                  first | exact rfl | exact ⟨rfl, rfl⟩
                go_simp
                refine wpG_pe rfl rfl ?_
                apply Exists.intro
                refine ⟨fun wq => ?_, ?_⟩
                · unfold plainAt
                  go_simp
                  first | exact rfl | exact ⟨rfl, rfl⟩
                go_simp
                refine wpG_pe rfl rfl ?_
                apply Exists.intro
                refine ⟨fun wq => ?_, ?_⟩
                · unfold plainAt
                  go_simp
                  first | exact rfl | exact ⟨rfl, rfl⟩
                go_simp
                refine wpG_pe rfl rfl ?_
                apply Exists.intro
                refine ⟨fun wq => ?_, ?_⟩
                · unfold plainAt
                  go_simp
                  first | exact rfl | exact ⟨rfl, rfl⟩
                go_simp
                refine wpG_pe rfl rfl ?_
                apply Exists.intro
                refine ⟨fun wq => ?_, ?_⟩
                · unfold plainAt
                  go_simp
                  first | exact rfl | exact ⟨rfl, rfl⟩
                go_simp
                refine wpG_pe rfl rfl ?_
                apply Exists.intro
                refine ⟨fun wq => ?_, ?_⟩
                · unfold plainAt
                  go_simp
                  first | exact rfl | exact ⟨rfl, rfl⟩
                go_simp
                refine wpG_pe rfl rfl ?_
                apply Exists.intro
                refine ⟨fun wq => ?_, ?_⟩
                · unfold plainAt
                  go_simp
                  first | exact rfl | exact ⟨rfl, rfl⟩
                go_simp
                refine wpG_qe rfl rfl ?_
                apply Exists.intro
                refine ⟨fun wq hq => ?_, ?_⟩
                · have c9 := (Below.cell hq (World.block_lt_of_cell? wr _ c0)).trans c0
                  unfold plainAt
                  go_simp
                  first | exact rfl | exact ⟨rfl, rfl⟩
                go_simp
                refine wpG_pe rfl rfl ?_
                apply Exists.intro
                refine ⟨fun wq => ?_, ?_⟩
                · unfold plainAt
                  go_simp
                  first | exact rfl | exact ⟨rfl, rfl⟩
                go_simp
                refine wpG_pe rfl rfl ?_
                apply Exists.intro
                refine ⟨fun wq => ?_, ?_⟩
                · unfold plainAt
                  go_simp
                  first | exact rfl | exact ⟨rfl, rfl⟩
                go_simp
                refine wpG_pe rfl rfl ?_
                apply Exists.intro
                refine ⟨fun wq => ?_, ?_⟩
                · unfold plainAt
                  go_simp
                  first | exact rfl | exact ⟨rfl, rfl⟩
                go_simp
                refine wpG_pe rfl rfl ?_
                apply Exists.intro
                refine ⟨fun wq => ?_, ?_⟩
                · unfold plainAt
                  go_simp
                  first | exact rfl | exact ⟨rfl, rfl⟩
                go_simp
                refine wpG_pe rfl rfl ?_
                apply Exists.intro
                refine ⟨fun wq => ?_, ?_⟩
                · unfold plainAt
                  go_simp
                  first | exact rfl | exact ⟨rfl, rfl⟩
                go_simp
                refine wpG_pe rfl rfl ?_
                apply Exists.intro
                refine ⟨fun wq => ?_, ?_⟩
                · unfold plainAt
                  go_simp
                  first | exact rfl | exact ⟨rfl, rfl⟩
                go_simp
                refine wpG_pe rfl rfl ?_
                apply Exists.intro
                refine ⟨fun wq => ?_, ?_⟩
                · unfold plainAt
                  go_simp
                  first | exact rfl | exact ⟨rfl, rfl⟩
                go_simp
                refine wpG_pe rfl rfl ?_
                apply Exists.intro
                refine ⟨fun wq => ?_, ?_⟩
                · unfold plainAt
                  go_simp
                  first | exact rfl | exact ⟨rfl, rfl⟩
                go_simp
                refine wpG_pe rfl rfl ?_
                apply Exists.intro
                refine ⟨fun wq => ?_, ?_⟩
                · unfold plainAt
                  go_simp
                  first | exact rfl | exact ⟨rfl, rfl⟩
                go_simp
                refine wpG_pe rfl rfl ?_
                apply Exists.intro
                refine ⟨fun wq => ?_, ?_⟩
                · unfold plainAt
                  go_simp
                  first | exact rfl | exact ⟨rfl, rfl⟩
                go_simp
                refine wpG_pe rfl rfl ?_
                apply Exists.intro
                refine ⟨fun wq => ?_, ?_⟩
                · unfold plainAt
                  go_simp
                  first | exact rfl | exact ⟨rfl, rfl⟩
                go_simp
                refine wpG_pe rfl rfl ?_
                apply Exists.intro
                refine ⟨fun wq => ?_, ?_⟩
                · unfold plainAt
                  go_simp
                  first | exact rfl | exact ⟨rfl, rfl⟩
                go_simp
                refine wpG_pe rfl rfl ?_
                apply Exists.intro
                refine ⟨fun wq => ?_, ?_⟩
                · unfold plainAt
                  go_simp
                  first | exact rfl | exact ⟨rfl, rfl⟩
                go_simp
                refine wpG_pe rfl rfl ?_
                apply Exists.intro
                refine ⟨fun wq => ?_, ?_⟩
                · unfold plainAt
                  go_simp
                  first | exact rfl | exact ⟨rfl, rfl⟩
                go_simp
                refine wpG_pe rfl rfl ?_
                apply Exists.intro
                refine ⟨fun wq => ?_, ?_⟩
                · unfold plainAt
                  go_simp
                  first | exact rfl | exact ⟨rfl, rfl⟩
                go_simp
                refine wpG_qe rfl rfl ?_
                apply Exists.intro
                refine ⟨fun wq hq => ?_, ?_⟩
                · have c9 := (Below.cell hq (World.block_lt_of_cell? wr _ c0')).trans c0'
                  unfold plainAt
                  go_simp
                  first | exact rfl | exact ⟨rfl, rfl⟩
                go_simp
                refine wpG_qe rfl rfl ?_
                apply Exists.intro
                refine ⟨fun wq hq => ?_, ?_⟩
                · have c9 := (Below.cell hq (World.block_lt_of_cell? wr _ c0)).trans c0
                  unfold plainAt
                  go_simp
                  first | exact rfl | exact ⟨rfl, rfl⟩
                go_simp
                refine wpG_pe rfl rfl ?_
                apply Exists.intro
                refine ⟨fun wq => ?_, ?_⟩
                · unfold plainAt
                  go_simp
                  first | exact rfl | exact ⟨rfl, rfl⟩
                go_simp
                refine wpG_pe rfl rfl ?_
                apply Exists.intro
                refine ⟨fun wq => ?_, ?_⟩
                · unfold plainAt
                  go_simp
                  first | exact rfl | exact ⟨rfl, rfl⟩
                go_simp
                refine wpG_pe rfl rfl ?_
                apply Exists.intro
                refine ⟨fun wq => ?_, ?_⟩
                · unfold plainAt
                  go_simp
                  first | exact rfl | exact ⟨rfl, rfl⟩
                go_simp
                refine wpG_nil ?_
                intro wq gq0
                have gq : Gr wr wq := Gr.trans (Gr.drew wr) gq0
                clear gq0 c0' hs2 t4 t7 e1 ew hjb
                have c0w := (Below.cell gq (World.block_lt_of_cell? wr _ c0)).trans c0
                have c1w := (Below.cell gq (World.block_lt_of_cell? wr _ c1)).trans c1
                have y0w := (HY.out wq gq).1
                obtain ⟨old, y1w⟩ := (HY.out wq gq).2
                have HSW := Lib.hid (HSET.out wq gq)
                clear c0 c1 HY HSET gq
                go_upto_region 17 with fail
                refine wp_region_pre (by kernel_rfl) (fun w' => w'.cell? ⟨b, o + j * 4, none⟩ = some (.int .i64 (xs : Int)) ∧ w'.cell? ⟨b, o + j * 4 + 1, none⟩ = some (.string sx) ∧ w'.cell? ⟨g5, xs, none⟩ = some old ∧ w'.frozen? ⟨g5, xs, none⟩ = false) (fun i => i == 5 || i == 10) (fun i => i == 12) [0, 1, 2, 3, 4, 5, 6, 7, 8, 9, 10, 11] 1 (by kernel_rfl) (by kernel_rfl) (by kernel_rfl) ⟨c0w, c1w, y1w, y0w⟩ ?_
                refine wpPre_e rfl rfl ?_
                apply Exists.intro
                refine ⟨fun wq hq => ?_, ?_⟩
                · clear hq
                  unfold plainAt
                  go_simp
                  first | exact rfl | exact ⟨rfl, rfl⟩
                go_simp
                refine wpPre_e rfl rfl ?_
                apply Exists.intro
                refine ⟨fun wq hq => ?_, ?_⟩
                · clear hq
                  unfold plainAt
                  go_simp
                  first | exact rfl | exact ⟨rfl, rfl⟩
                go_simp
                refine wpPre_e rfl rfl ?_
                apply Exists.intro
                refine ⟨fun wq hq => ?_, ?_⟩
                · clear hq
                  unfold plainAt
                  go_simp
                  first | exact rfl | exact ⟨rfl, rfl⟩
                go_simp
                refine wpPre_e rfl rfl ?_
                apply Exists.intro
                refine ⟨fun wq hq => ?_, ?_⟩
                · clear hq
                  unfold plainAt
                  go_simp
                  first | exact rfl | exact ⟨rfl, rfl⟩
                go_simp
                refine wpPre_e rfl rfl ?_
                apply Exists.intro
                refine ⟨fun wq hq => ?_, ?_⟩
                · clear hq
                  unfold plainAt
                  go_simp
                  first | exact rfl | exact ⟨rfl, rfl⟩
                go_simp
                refine wpPre_e rfl rfl ?_
                apply Exists.intro
                refine ⟨fun wq hq => ?_, ?_⟩
                · replace hq := hq rfl
                  obtain ⟨z0, z1, z2, z3⟩ := hq
                  unfold plainAt
                  go_simp
                  first | exact rfl | exact ⟨rfl, rfl⟩
                go_simp
                refine wpPre_e rfl rfl ?_
                apply Exists.intro
                refine ⟨fun wq hq => ?_, ?_⟩
                · clear hq
                  unfold plainAt
                  go_simp
                  first | exact rfl | exact ⟨rfl, rfl⟩
                go_simp
                refine wpPre_e rfl rfl ?_
                apply Exists.intro
                refine ⟨fun wq hq => ?_, ?_⟩
                · clear hq
                  unfold plainAt
                  go_simp
                  first | exact rfl | exact ⟨rfl, rfl⟩
                go_simp
                refine wpPre_e rfl rfl ?_
                apply Exists.intro
                refine ⟨fun wq hq => ?_, ?_⟩
                · clear hq
                  unfold plainAt
                  go_simp
                  first | exact rfl | exact ⟨rfl, rfl⟩
                go_simp
                refine wpPre_e rfl rfl ?_
                apply Exists.intro
                refine ⟨fun wq hq => ?_, ?_⟩
                · clear hq
                  unfold plainAt
                  go_simp
                  first | exact rfl | exact ⟨rfl, rfl⟩
                go_simp
                refine wpPre_e rfl rfl ?_
                apply Exists.intro
                refine ⟨fun wq hq => ?_, ?_⟩
                · replace hq := hq rfl
                  obtain ⟨z0, z1, z2, z3⟩ := hq
                  unfold plainAt
                  go_simp
                  first | exact rfl | exact ⟨rfl, rfl⟩
                go_simp
                refine wpPre_e rfl rfl ?_
                apply Exists.intro
                refine ⟨fun wq hq => ?_, ?_⟩
                · clear hq
                  unfold plainAt
                  go_simp
                  first | exact rfl | exact ⟨rfl, rfl⟩
                go_simp
                refine wpPre_nil ?_
                refine wpRest_one (i := 12) (by kernel_rfl) rfl rfl ?_
                intro K hK
                go_simp
                refine hK _ _ (fun h => absurd h (by decide)) ?_
                clear hK
                go_simp
                refine wpRest_nil (by kernel_rfl) ?_
                go_wp2_with fail
                refine ⟨⟨j + 1, by omega, by first | trivial | go_num, HSW.out.mono (Gr.drew _)⟩, ?_⟩
                show tl - ((j : Int) + 1).toNat < tl - (j : Int).toNat
                omega
            · obtain rfl : j = tl := by omega
              obtain ⟨wn, rfl⟩ : ∃ wn : World, wn = wr := ⟨_, rfl⟩
              rw [List.take_of_length_le (by omega), HOV.out] at tu
              have TU := Lib.hid tu
              have hsl : st.1.length = k := tu.ws.len
              have HON2 := Lib.hid (HPO.out.once HON.out)
              have GW := Lib.hid (Gr.trans G2.out tu.gr)
              have HFI := Lib.hid (fun s => leafFind_any A5 k c5 st.1 s wn tu.ws (by omega))
              clear tu HIN HUP
              go_wp2_with fail
              go_loopw [10] (fun i wq => ∃ i' : Nat, i' ≤ k ∧ i = .int .i64 i' ∧ wq = wn) (fun i _ => k - (intOf i).toNat)
              case atStart => exact ⟨0, Nat.zero_le _, rfl, rfl⟩
              case round =>
                obtain ⟨i', hi', rfl, rfl⟩ := hrel
                by_cases hik : i' < k
                · have hil : i' < st.1.length := by omega
                  obtain ⟨b, o, rfl, hcc⟩ := Ws.addr TU.out.ws (by omega)
                  have c1 := hcc i' hil
                  have HFO := Lib.hid (fun h0 => find_of_once HON2.out hil h0)
                  have HF2 := Lib.hid (HFI.out st.1[i'])
                  clear hcc
                  generalize st.1[i'] = x at *
                  obtain ⟨xs, hxs⟩ : ∃ xs : ByteArray, xs = ⟨x.toArray⟩ := ⟨_, rfl⟩
                  rw [← hxs] at c1
                  have e1 : strc x = .string xs := by rw [hxs]; rfl
                  rw [e1] at HF2
                  have hxl : xs.toList = x := by rw [hxs, ByteArray.toList_eq]
                  clear hxs e1
                  by_cases h0 : x = []
                  · have he : xs.toList.isEmpty = true := by rw [hxl, h0]; rfl
                    clear hxl h0 HFO HF2
                    go_wp2_with fail
                    refine ⟨⟨i' + 1, by omega, by first | trivial | go_num, by first | trivial | rfl⟩, ?_⟩
                    show k - ((i' : Int) + 1).toNat < k - (i' : Int).toNat
                    omega
                  · have he : xs.toList.isEmpty = false := by
                      rw [hxl]
                      cases x with
                      | nil => exact absurd rfl h0
                      | cons a b => rfl
                    have hq := HFO.out h0
                    rw [hq] at HF2
                    have t1 : ((i' : Int) != (i' : Int)) = false := by simp
                    clear hxl h0 HFO hq
                    go_wp2_with fail
                    refine HF2.out.mono ?_
                    rintro e w5 ⟨rfl, rfl⟩
                    go_wp2_with fail
                    refine ⟨⟨i' + 1, by omega, by first | trivial | go_num, by first | trivial | rfl⟩, ?_⟩
                    show k - ((i' : Int) + 1).toNat < k - (i' : Int).toNat
                    omega
                · obtain ⟨wn, rfl⟩ : ∃ wn : World, wn = wr := ⟨_, rfl⟩
                  go_wp2_with fail
                  go_loopw [11] (fun i wq => ∃ i1 : Nat, i1 ≤ m ∧ i = .int .i64 i1 ∧ Gr wn wq) (fun i _ => m - (intOf i).toNat)
                  case atStart => exact ⟨0, Nat.zero_le _, rfl, Gr.refl _⟩
                  case round =>
                    obtain ⟨i1, hi1, rfl, gq⟩ := hrel
                    by_cases him : i1 < m
                    · have hil : i1 < L.length := by rw [HL2.out]; exact him
                      have HTOLD := Lib.hid (fun hl => last_told HPO.out HON.out (i := i1) (by rw [List.length_map]; exact hil) hl)
                      obtain ⟨b, o, rfl, c1, _, c3, _, _⟩ := (HC.out.mono GW.out).row hil
                      have GQ := Lib.hid gq
                      have HFI1 := Lib.hid (fun wq (g : Gr wn wq) => leafFind_any A5 k c5 st.1 L[i1].d.n wq (TU.out.mono g).ws (by omega))
                      have HNX : Hid (∀ (k' : Nat) (hk : k' < L.length), (∀ q (hq : q < L.length), i1 < q → q < k' → L[q].d.n ≠ L[i1].d.n) → L[k'].d.n ≠ L[i1].d.n → ∀ q (hq : q < L.length), i1 < q → q < k' + 1 → L[q].d.n ≠ L[i1].d.n) := fun k' hk h1 h2 q hq q1 q2 => by
                        by_cases e : q = k'
                        · subst e; exact h2
                        · exact h1 q hq q1 (by omega)
                      have HTL : Hid ((∀ q (hq : q < L.length), i1 < q → q < m → L[q].d.n ≠ L[i1].d.n) → decide (findH st.1 L[i1].d.n < 0) = L[i1].d.g) := fun h1 => by
                        have h2 := HTOLD.out (fun q hq hiq => by
                          rw [List.length_map] at hq
                          rw [List.getElem_map, List.getElem_map]
                          exact h1 q hq hiq (by rw [← HL2.out]; exact hq))
                        rw [List.getElem_map] at h2
                        exact h2
                      clear gq
                      obtain ⟨xi, hxi⟩ : ∃ xi, xi = L[i1].d.n := ⟨_, rfl⟩
                      obtain ⟨gi, hgi⟩ : ∃ gi, gi = L[i1].d.g := ⟨_, rfl⟩
                      rw [← hxi] at c1 HFI1 HNX HTL
                      rw [← hgi] at c3 HTL
                      obtain ⟨si, hsi⟩ : ∃ si : ByteArray, si = ⟨xi.toArray⟩ := ⟨_, rfl⟩
                      have e1 : strc xi = .string si := by rw [hsi]; rfl
                      rw [e1] at c1 HFI1
                      have HSI : Hid (si.toList = xi) := by show _ = _; rw [hsi, ByteArray.toList_eq]
                      have HCI : Hid (∀ wq, Gr wn wq → wq.cell? ⟨b, o + i1 * 3, none⟩ = some (.string si) ∧ wq.cell? ⟨b, o + i1 * 3 + 2, none⟩ = some (.bool gi)) := fun wq g => ⟨(Below.cell g (World.block_lt_of_cell? wn _ c1)).trans c1, (Below.cell g (World.block_lt_of_cell? wn _ c3)).trans c3⟩
                      clear hxi hgi hsi e1 c1 c3
                      go_wp2_with fail
                      go_loopw [12, 13] (fun lv i wq => ∃ (k' : Nat) (lb : Bool), k' ≤ m ∧ i1 + 1 ≤ k' ∧ lv = .bool lb ∧ i = .int .i64 k' ∧ Gr wn wq ∧ (lb = true → ∀ q (hq : q < L.length), i1 < q → q < k' → L[q].d.n ≠ xi)) (fun _ i _ => m - (intOf i).toNat)
                      case atStart => exact ⟨i1 + 1, true, by omega, Nat.le_refl _, rfl, rfl, GQ.out, fun _ q hq h1 h2 => absurd h1 (by omega)⟩
                      case round =>
                        obtain ⟨k', lb, hk1, hk2, rfl, rfl, gw, hlb⟩ := hrel
                        have GW2 := Lib.hid gw
                        have HLB := Lib.hid hlb
                        clear hlb
                        by_cases hkm : k' < m
                        · have hkl : k' < L.length := by rw [HL2.out]; exact hkm
                          obtain ⟨b', o', e', d1, _, _, _, _⟩ := (HC.out.mono (Gr.trans GW.out gw)).row hkl
                          injection e' with e'
                          injection e' with e1 e2
                          subst e1 e2
                          have c1 := (HCI.out _ gw).1
                          have HNK := Lib.hid (HNX.out k' hkl)
                          clear gw
                          generalize L[k'].d.n = xk at *
                          obtain ⟨sk, hsk⟩ : ∃ sk : ByteArray, sk = ⟨xk.toArray⟩ := ⟨_, rfl⟩
                          have e1 : strc xk = .string sk := by rw [hsk]; rfl
                          rw [e1] at d1
                          have hsl2 : sk.toList = xk := by rw [hsk, ByteArray.toList_eq]
                          clear hsk e1
                          cases lb with
                          | false =>
                            clear hsl2 HNK
                            go_wp2_with fail
                            go_quiet (fail)
                            go_wp2_with fail
                            refine ⟨⟨k' + 1, false, by omega, by omega, by first | trivial | rfl, by first | trivial | go_num, belowN GW2.out _, fun q => by cases q⟩, ?_⟩
                            show m - ((k' : Int) + 1).toNat < m - (k' : Int).toNat
                            omega
                          | true =>
                            by_cases hx : xk = xi
                            · have t1 : (sk.toList == si.toList) = true := by rw [hsl2, HSI.out, hx]; simp
                              clear hsl2 HNK hx
                              go_wp2_with fail
                              go_quiet (fail)
                              go_wp2_with fail
                              refine ⟨⟨k' + 1, false, by omega, by omega, by first | trivial | rfl, by first | trivial | go_num, belowN GW2.out _, fun q => by cases q⟩, ?_⟩
                              show m - ((k' : Int) + 1).toNat < m - (k' : Int).toNat
                              omega
                            · have t1 : (sk.toList == si.toList) = false := by rw [hsl2, HSI.out]; exact beq_eq_false_iff_ne.2 hx
                              have HNK2 := Lib.hid (HNK.out (HLB.out rfl) hx)
                              clear hsl2 HNK hx
                              go_wp2_with fail
                              go_quiet (fail)
                              go_wp2_with fail
                              refine ⟨⟨k' + 1, true, by omega, by omega, by first | trivial | rfl, by first | trivial | go_num, belowN GW2.out _, fun _ => HNK2.out⟩, ?_⟩
                              show m - ((k' : Int) + 1).toNat < m - (k' : Int).toNat
                              omega
                        · obtain rfl : k' = m := by omega
                          obtain ⟨c1, c3⟩ := HCI.out _ gw
                          clear gw
                          cases lb with
                          | false =>
                            go_wp2_with fail
                            go_quiet (fail)
                            go_wp2_with fail
                            refine ⟨⟨i1 + 1, by omega, by first | trivial | go_num, belowN GW2.out _⟩, ?_⟩
                            show k' - ((i1 : Int) + 1).toNat < k' - (i1 : Int).toNat
                            omega
                          | true =>
                            have hq := HTL.out (HLB.out rfl)
                            have HFQ := Lib.hid (fun qq => HFI1.out (wr.drewN qq) (belowN GW2.out qq))
                            obtain ⟨q0, hq0⟩ : ∃ q0, q0 = findH st.1 xi := ⟨_, rfl⟩
                            rw [← hq0] at hq HFQ
                            have hm2 := hm5
                            clear hq0
                            cases gi with
                            | true =>
                              go_wp2_with fail
                              go_quiet ((go_at_call 8; exact Calls.quiet_of_same (HFQ.out _)))
                              go_wp2_with fail
                              refine ⟨⟨i1 + 1, by omega, by first | trivial | go_num, belowN GW2.out _⟩, ?_⟩
                              show k' - ((i1 : Int) + 1).toNat < k' - (i1 : Int).toNat
                              omega
                            | false =>
                              go_wp2_with fail
                              go_quiet ((go_at_call 8; exact Calls.quiet_of_same (HFQ.out _)))
                              go_wp2_with fail
                              refine ⟨⟨i1 + 1, by omega, by first | trivial | go_num, belowN GW2.out _⟩, ?_⟩
                              show k' - ((i1 : Int) + 1).toNat < k' - (i1 : Int).toNat
                              omega
                    · have GQ := Lib.hid (Gr.trans GW.out gq)
                      clear gq
                      go_wp2_with fail
                      refine (HAL.out _ GQ.out).mono ?_
                      rintro e w6 ⟨rfl, g6⟩
                      have G6 := Lib.hid (Gr.trans GQ.out g6); clear g6
                      go_wp2_with fail
                      go_ret
                      exact ⟨rfl, G6.out⟩
        · have hT0 := HB0.out hq
          subst hT0
          have t1 : ((q : Int) != 0) = true := by rw [bne_iff_ne]; omega
          clear HOK HB0 HTT hq
          go_wp2_with fail
          refine (HAL.out _ G2.out).mono ?_
          rintro e w3 ⟨rfl, g3⟩
          have G3 := Lib.hid (Gr.trans G2.out g3); clear g3
          go_wp2_with fail
          go_ret
          exact ⟨rfl, G3.out⟩
end Go.Proofs.YtfemhhjmfckicaaDoor
