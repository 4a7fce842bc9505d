/- Who knows terms: closed walked. No condition. -/
import Derived.Test.YthlnoaalhojphaaObKnowG
import Derived.Maps.RangeWalk
import Derived.Outline
namespace Go.Proofs.Ythlnoaalhojphaa
open Go.RowKit
set_option linter.unusedVariables false
/-- As far as the range has come. -/
structure RangeI (w1 wr : World) (bs r ns gh : Nat) (D : DataW Value) (ls : List Int) (n : Nat) (left : Lit → Bool) (cnt : Nat) (hd : List Bool) : Prop where
  rg : wr.ranges Try.prog 3 Rv bs r ns D left cnt
  lf : ∀ kl, left kl = true → Go.Maps.has D kl = true
  blk : Blk wr gh 4 (hd.map boolc)
  hl : hd.length = n
  is : ∀ id, dAt hd id = true ↔ (id : Int) ∈ ls ∧ left (.int .i64 (id : Int)) = false
  gr : Gr w1 wr
theorem sameKey_int (a b : Int) : (Lit.int .i64 a).sameKey (.int .i64 b) = decide (a = b) := by
  show decide (IntKind.i64 = IntKind.i64 ∧ a = b) = decide (a = b)
  rw [decide_eq_decide]
  exact ⟨fun h => h.2, fun h => ⟨rfl, h⟩⟩
theorem RangeI.step {w1 wr w2 w3 : World} {bs r ns gh : Nat} {D : DataW Value} {ls : List Int} {n : Nat} {left : Lit → Bool} {cnt cnt' : Nat} {hd : List Bool} (h : RangeI w1 wr bs r ns gh D ls n left cnt hd) (hD : ∀ x, Go.Maps.has D (.int .i64 x) = ls.contains x) (x : Nat) (hx : x < n) (hlf : left (.int .i64 (x : Int)) = true)
    (hr : w2.ranges Try.prog 3 Rv bs r ns D (fun z => left z && !z.sameKey (.int .i64 (x : Int))) cnt') (hg : wr.grownBy w2 (some r)) (hgr : w1.heap.size ≤ gh) (hr1 : w1.heap.size ≤ r) (hgh : gh ≠ r) (hgb : gh ≠ bs) (h3 : w3 = w2.setCell ⟨gh, x, none⟩ (.bool true)) : RangeI w1 w3 bs r ns gh D ls n (fun z => left z && !z.sameKey (.int .i64 (x : Int))) cnt' (hd.set x true) := by
  have b2 : Blk w2 gh 4 (hd.map boolc) := (hg.block gh h.blk.lt (fun e => hgh (Option.some.inj e))).trans h.blk
  have e3 : ∀ k, k ≠ gh → w3.heap[k]? = w2.heap[k]? := fun k hk => by rw [h3]; exact Below.heap_setCell w2 _ _ k hk
  have z3 : w3.heap.size = w2.heap.size := by rw [h3]; simp [World.setCell]
  have g3 : w2.grownBy w3 (some gh) := ⟨by rw [h3]; rfl, by rw [h3]; rfl, by rw [h3]; rfl, by rw [z3]; exact Nat.le_refl _, fun k _ hk => e3 k (fun e => hk (by rw [e]))⟩
  refine ⟨hr.kept g3 (fun e => hgb (Option.some.inj e).symm) (fun e => hgh (Option.some.inj e).symm), fun kl hkl => h.lf kl (by simp at hkl; exact hkl.1), ?_, by rw [List.length_set]; exact h.hl, fun id => ?_, ?_⟩
  · rw [h3, List.map_set]
    exact b2.set x _
  · have hxin : (x : Int) ∈ ls := by
      have := h.lf _ hlf
      rw [hD] at this
      simpa using this
    rw [dAt_set _ _ _ _ (by rw [h.hl]; exact hx)]
    by_cases e : x = id
    · subst e
      rw [if_pos rfl]
      simp [sameKey_int, hxin]
    · rw [if_neg e, h.is, sameKey_int]
      have : ¬ ((id : Int) = (x : Int)) := by omega
      simp [this]
  · exact (Below.grown h.gr hg h.gr.size (fun k hk => by have := Option.some.inj hk; omega)).grown g3 (Nat.le_trans h.gr.size hg.size) (fun k hk => by have := Option.some.inj hk; omega)
theorem RangeI.had {w1 wr : World} {bs r ns gh : Nat} {D : DataW Value} {ls : List Int} {T : List Nd} {left : Lit → Bool} {cnt : Nat} {hd : List Bool} (h : RangeI w1 wr bs r ns gh D ls (T.length + 1) left cnt hd) (h0 : ∀ kl, left kl = false) (hls : ∀ x ∈ ls, outside T.length x = false) : HadOk T ls hd :=
  ⟨h.hl, fun id hid => by
    have h1 := ((h.is id).1 hid).1
    have h2 := hls _ h1
    unfold outside at h2
    simp at h2
    exact Der.know (by omega) (by omega) h1, fun id _ _ h3 => (h.is id).2 ⟨h3, h0 _⟩⟩
theorem kindOf_zero (T : List Nd) : kindOf T ((0 : Nat) : Int) = 0 := by unfold kindOf outside; simp
def isT : Value → Bool
  | .bool b => b
  | _ => false
/-- How many stand in a block of bools. -/
def cntAt (w : World) (b : Nat) : Nat := match w.heap[b]? with
  | some (.cells cs _ _) => (cs.toList.filter isT).length
  | _ => 0
theorem cntAt_eq {w : World} {b : Nat} {t : TypeId} {hd : List Bool} (h : Blk w b t (hd.map boolc)) : cntAt w b = cnt hd := by
  unfold cntAt
  rw [h]
  unfold cnt
  dsimp only
  rw [List.filter_map, List.length_map]
  congr 1
set_option maxRecDepth 100000 in
set_option maxHeartbeats 2000000 in
theorem closed_any (w0 : World) (gk g bk N : Nat) (T : List Nd) (l : List Int) (vk vp vi : Value) (bs ns : Nat) (ls : List Int) (w : World) (h : KnF w0 w gk g bk N T l vk vp vi) (ht : TRd w0 g T) (hT : Parted T) (hk : Kinds T) (hn : T.length ≤ 1000) (hm : mK w bs ns ls) (hls : ∀ x ∈ ls, outside T.length x = false) :
    Calls Try.prog 35 #[.pointer (some ⟨gk, 0, none⟩), .map (some bs)] w fun e w' => ∃ go d vk' vp', w.heap.size ≤ go ∧ e = .returned (.slice (some ⟨go, 0, none⟩) (T.length + 1) (T.length + 1)) ∧ Blk w' go 4 (d.map boolc) ∧ Tells T (InL ls) d ∧ KnF w0 w' gk g bk N T l vk' vp' vi ∧ KnowFull w0 w' T vk' vp' ∧ Tch (fun b => b = gk) w w' := by
  have H := Lib.hid h; have HT := Lib.hid ht; have HP := Lib.hid hT; have HK := Lib.hid hk; have HM := Lib.hid hm; have HLS := Lib.hid hls
  have HGR := Lib.hid (grow_any w0 gk g bk N T l vk vp vi w h ht hk hn)
  obtain ⟨n, hN⟩ : ∃ n, n = T.length + 1 := ⟨_, rfl⟩
  have hn' : n ≤ 1001 := by omega
  have hn1 : 1 ≤ n := by omega
  rw [← hN]
  have HN := Lib.hid hN
  have hmk := fun w => run_mk tBools rfl n (by omega) w
  clear h ht hT hk hm hls hn hN
  go_enter Try.func35, Try.ntmps35
  go_wp2_with fail
  go_step3
  go_wp2_with fail
  refine HGR.out.mono ?_
  rintro e w1 ⟨rfl, t1, vk1, vp1, k1, f1⟩
  have T1 := Lib.hid t1; have K1 := Lib.hid k1; have F1 := Lib.hid f1
  obtain ⟨Ak, ck, rfl, sk⟩ := f1.1.slice
  have c2 := (k1.blk.cell 2).trans rfl
  have hck := sk.cap; have hcm := sk.max
  rw [← HN.out] at c2 hck
  clear t1 k1 f1 sk
  have hsg : bs ≠ gk := by
    rintro rfl
    obtain ⟨es, clock, hm⟩ := HM.out.obj
    have := H.out.blk
    unfold Blk at this
    rw [hm] at this
    cases this
  obtain ⟨D, hD1, hD2⟩ := HM.out.keep (T1.out.keep bs HM.out.lt hsg)
  have HD := Lib.hid hD2
  have hown := hD1.alloc (.cells (reps n (.bool false)).toArray 4)
  clear hD1 hD2
  go_wp2_with (first
    | (at_range; refine wpList_range_own _ rfl _ 53 rfl 3 59 keyedI Try.underlying53 _ bs ns D rfl hown ?_; intro w2 hrg2 hg2 hs2)
    | go_in)
  go_frame
  have hz1 : (w1.alloc (.cells (reps n (.bool false)).toArray 4)).heap.size = w1.heap.size + 1 := by simp
  rw [hz1] at hrg2 hs2 ⊢
  have HR0 : Hid (RangeI w1 w2 bs (w1.heap.size + 1) ns w1.heap.size D ls n (Go.Maps.has D) (Go.Maps.size D) (List.replicate n false)) := by
    have hb1 := Blk.new w1 4 (reps n (.bool false)).toArray
    refine ⟨hrg2, fun _ h => h, ?_, by simp, fun id => ?_, (Gr.alloc w1 _).trans ⟨hg2.os, hg2.tape, hg2.output, hg2.size, fun k hk => hg2.block k hk (by simp)⟩⟩
    · rw [List.map_replicate]
      exact (hg2.block _ hb1.lt (by simp)).trans hb1
    · rw [HD.out, dAt_rep]
      simp
  clear hrg2 hg2 hs2 hz1 hown hmk
  go_loopw [6] (fun _ wr => ∃ (left : Lit → Bool) (cnt : Nat) (hd : List Bool), RangeI w1 wr bs (w1.heap.size + 1) ns w1.heap.size D ls n left cnt hd) (fun _ wr => wr.rangeLeft bs (w1.heap.size + 1))
  case atStart => exact ⟨_, _, _, HR0.out⟩
  case round =>
    obtain ⟨left, cn, hd, hri⟩ := hrel
    have RI := Lib.hid hri; clear hri HR0
    have hrg := RI.out.rg
    go_wp2_with (first
      | (at_next; refine wpList_next_ranges (α := Int) (β := Value) _ rfl _ rfl 3 keyedI Rv (Value.int .i64) id (fun key kl hkey => by obtain ⟨x, rfl, _⟩ := Go.Maps.keyOf_int_inv Try.underlying3 hkey; exact ⟨x, rfl⟩) (fun v y hv => ⟨v, rfl⟩) bs (w1.heap.size + 1) ns D left cn rfl hrg ?_ ?_)
      | go_in)
    · intro hc0 hl0
      have HDK : Hid (HadOk T ls hd) := by
        have h := RI.out
        rw [HN.out] at h
        exact h.had hl0 HLS.out
      have HB := Lib.hid RI.out.blk; have HGR := Lib.hid RI.out.gr
      clear RI hrg hc0 hl0
      go_wp2_with fail
      go_step3
      go_wp2_with fail
      go_loopw [8] (fun _ wx => ∃ hd : List Bool, HadOk T ls hd ∧ Blk wx w1.heap.size 4 (hd.map boolc) ∧ Gr w1 wx) (fun _ wx => n - cntAt wx w1.heap.size)
      case atStart => exact ⟨_, HDK.out, HB.out, HGR.out⟩
      case round =>
        obtain ⟨hh, hok, hbl, hgr⟩ := hrel
        have OK := Lib.hid hok; have BL := Lib.hid hbl; have G := Lib.hid hgr; clear hok hbl hgr HDK HB HGR
        obtain ⟨wo, rfl⟩ : ∃ wo : World, wo = wr := ⟨_, rfl⟩
        have HBU := Lib.hid (built_any w0 gk g bk N T l _ vp1 vi (some ⟨w1.heap.size, 0, none⟩) n hh wo (K1.out.gr G.out) (by
          obtain ⟨q1, R, q2, q3⟩ := F1.out
          exact ⟨q1.mono G.out, R, q2.mono G.out, q3⟩) (by
          refine ⟨by simp [OK.out.len], by rw [← HN.out]; exact Nat.le_refl _, by unfold maxLen; omega, fun _ => ⟨_, _, rfl, fun j u hu => ?_⟩⟩
          rw [Nat.zero_add, BL.out.cell]; exact hu) (by have := HN.out; omega) HP.out)
        rw [← HN.out] at HBU
        go_wp2_with fail
        refine HBU.out.mono ?_
        rintro e w5 ⟨go, hgo, rfl, hbo, hg5⟩
        have BO := Lib.hid hbo; have G5 := Lib.hid hg5; have HGO := Lib.hid hgo
        clear hbo hg5 HBU hgo
        obtain ⟨out, hout⟩ : ∃ out, out = builtL T hh := ⟨_, rfl⟩
        have HOUT := Lib.hid hout
        have HOL : Hid (out.length = n) := by show _ = _; rw [hout, HN.out]; exact builtTo_len _ _ _
        rw [← hout] at BO
        clear hout
        have hgg : go ≠ w1.heap.size := by have h1 := HGO.out; have h2 := BL.out.lt; omega
        have HGG := Lib.hid hgg; clear hgg
        go_wp2_with fail
        go_loopw [8, 33] (fun mo i wx => ∃ (j : Nat) (m : Bool) (hd' : List Bool), j ≤ n ∧ i = .int .i64 j ∧ mo = .bool m ∧ ScanI T ls hh hd' j m ∧ Blk wx w1.heap.size 4 (hd'.map boolc) ∧ Blk wx go 4 (out.map boolc) ∧ Gr w1 wx) (fun _ i _ => n - (Go.RowKit.intOf i).toNat)
        case atStart => exact ⟨0, false, hh, Nat.zero_le _, rfl, rfl, ScanI.start OK.out, G5.out.blk BL.out, BO.out, G.out.trans G5.out⟩
        case round =>
          obtain ⟨j, m, hd', hjn, rfl, rfl, hsc, hb1, hb2, hgx⟩ := hrel
          obtain ⟨wi, rfl⟩ : ∃ wi : World, wi = wr := ⟨_, rfl⟩
          have SC := Lib.hid hsc; have B1 := Lib.hid hb1; have B2 := Lib.hid hb2; have GX := Lib.hid hgx
          clear hsc hb1 hb2 hgx
          by_cases hlt : j < n
          · have t0 : decide ((j : Int) < (n : Int)) = true := decide_eq_true (by omega)
            have ci : wi.cell? ⟨go, j, none⟩ = some (.bool (dAt out j)) := (B2.out.cell j).trans (boolc_at (by rw [HOL.out]; exact hlt))
            cases ho : dAt out j with
            | false =>
              rw [ho] at ci
              have HO := Lib.hid ho; clear ho
              go_wp2_with fail
              refine ⟨⟨j + 1, m, hd', by omega, by simp, rfl, SC.out.skip (fun i x hx e hk h1 _ => ?_), B1.out, B2.out, GX.out⟩, by simp [Go.RowKit.intOf]; omega⟩
              rw [← HOUT.out, HO.out] at h1
              cases h1
            | true =>
              rw [ho] at ci
              have HO := Lib.hid ho; clear ho
              obtain ⟨b1, o1, b2, o2, c1', c2', r, hat⟩ := KnowFull.at (gk := gk) F1.out (k := j) (by have := HN.out; omega)
              have hA := hat.gr GX.out
              have e1 := hat.vk; have e2 := hat.vp
              rw [← HN.out] at e1 e2
              have q1 := hat.ck; have q2 := hat.cp
              rw [← HN.out] at q1 q2
              obtain ⟨rfl, rfl⟩ : Ak = some ⟨b1, o1, none⟩ ∧ ck = c1' := by
                have := hat.vk
                injection this with a1 a2 a3
                exact ⟨a1, a3⟩
              subst e2
              have k0 := hA.kc; have k1 := hA.pc
              have hbk := (Gr.blk GX.out K1.out.blk)
              have d2 : wi.cell? ⟨gk, 2, none⟩ = some (.slice (some ⟨b1, o1, none⟩) n ck) := by rw [HN.out]; exact (hbk.cell 2).trans rfl
              have d3 : wi.cell? ⟨gk, 3, none⟩ = some (.slice (some ⟨b2, o2, none⟩) n c2') := (hbk.cell 3).trans rfl
              have HA := Lib.hid hA
              clear hat hA hbk e1
              by_cases h5 : kindOf T (j : Int) = 5
              · obtain ⟨i, hji⟩ : ∃ i, j = i + 1 := by
                  cases j with
                  | zero => exact absurd h5 (by rw [kindOf_zero]; decide)
                  | succ i => exact ⟨i, rfl⟩
                obtain ⟨x, hx⟩ : ∃ x, T[i]? = some x := ⟨T[i]'(by have := HN.out; omega), List.getElem?_eq_getElem _⟩
                have hks := kindOf_succ hx
                rw [← hji] at hks
                have hx5 : x.k = 5 := hks.1.symm.trans h5
                have hp2 : x.parts = [x.a, x.b] := by simp [Nd.parts, hx5]
                have hrl := HA.out.rl
                rw [hks.2, hp2] at hrl
                have hPx := (HP.out i x hx).2
                have ha := hPx x.a (by rw [hp2]; simp)
                have hb := hPx x.b (by rw [hp2]; simp)
                have hrr := HA.out.rr
                have hrn : r.n = 2 := by rw [← hrr.len, hrl]; rfl
                have hrc := hrr.cap; have hrm := hrr.max
                obtain ⟨br, or', era, hrcell⟩ := Is.addr hrr (by omega)
                have u0 := hrcell 0 (by omega)
                have u1 := hrcell 1 (by omega)
                rw [hrl] at u0 u1
                rw [Nat.add_zero] at u0
                have hla : x.a < n := by have := HN.out; omega
                have hlb : x.b < n := by have := HN.out; omega
                have va : wi.cell? ⟨go, x.a, none⟩ = some (.bool (dAt out x.a)) := (B2.out.cell x.a).trans (boolc_at (by rw [HOL.out]; exact hla))
                have vb : wi.cell? ⟨go, x.b, none⟩ = some (.bool (dAt out x.b)) := (B2.out.cell x.b).trans (boolc_at (by rw [HOL.out]; exact hlb))
                rw [era, hrn] at k1
                rw [h5] at k0
                rw [hrn] at hrc
                have HX := Lib.hid hx; have HJI := Lib.hid hji; have HX5 := Lib.hid hx5
                have SK : Hid ((dAt out x.a = true → dAt out x.b = true) → ScanI T ls hh hd' (j + 1) m) := fun hh2 => SC.out.skip (fun i' x' hx' e _ _ h1 => by
                  have ei : i' = i := by have := HJI.out; omega
                  subst ei
                  obtain rfl : x' = x := Option.some.inj (hx'.symm.trans HX.out)
                  rw [← HOUT.out] at h1 ⊢
                  exact hh2 h1)
                have u0' : wi.cell? ⟨br, or', none⟩ = some (.int .i64 (x.a : Int)) := u0
                have u1' : wi.cell? ⟨br, or' + 1, none⟩ = some (.int .i64 (x.b : Int)) := u1
                clear hks hp2 hrl hPx ha hb hrr hrn hrcell u0 u1 hx hji hx5 h5 era
                cases hoa : dAt out x.a with
                | false =>
                  rw [hoa] at va
                  have SK1 := Lib.hid (SK.out (fun q => by rw [hoa] at q; cases q))
                  clear hoa
                  go_wp2_with fail
                  exact ⟨⟨j + 1, m, hd', by omega, by simp, rfl, SK1.out, B1.out, B2.out, GX.out⟩, by simp [Go.RowKit.intOf]; omega⟩
                | true =>
                  rw [hoa] at va
                  have HOA := Lib.hid hoa; clear hoa
                  cases hob : dAt out x.b with
                  | true =>
                    rw [hob] at vb
                    have SK1 := Lib.hid (SK.out (fun _ => hob))
                    clear hob
                    go_wp2_with fail
                    exact ⟨⟨j + 1, m, hd', by omega, by simp, rfl, SK1.out, B1.out, B2.out, GX.out⟩, by simp [Go.RowKit.intOf]; omega⟩
                  | false =>
                    rw [hob] at vb
                    have HOP : Hid (ScanI T ls hh (hd'.set x.b true) (j + 1) true) := by
                      have h1 := HO.out; have h2 := HOA.out; have h3 := hob
                      rw [HOUT.out] at h1 h2 h3
                      have e := HJI.out
                      subst e
                      exact SC.out.opens HP.out OK.out HX.out HX5.out h1 h2 h3
                    clear hob
                    have hl' : hd'.length = n := by rw [SC.out.ok.len, HN.out]
                    have cb : wi.cell? ⟨w1.heap.size, x.b, none⟩ = some (.bool (dAt hd' x.b)) := (B1.out.cell x.b).trans (boolc_at (by rw [hl']; exact hlb))
                    have yb := B1.out.free x.b
                    have hlg := B1.out.lt
                    have B1s : Hid (Blk (wi.setCell ⟨w1.heap.size, x.b, none⟩ (.bool true)) w1.heap.size 4 ((hd'.set x.b true).map boolc)) := by
                      show Blk _ _ _ _
                      rw [List.map_set]
                      exact B1.out.set x.b _
                    have B2s := Lib.hid (B2.out.far (p := ⟨w1.heap.size, x.b, none⟩) HGG.out (.bool true))
                    have GXs := Lib.hid (GX.out.setCell (p := ⟨w1.heap.size, x.b, none⟩) (Nat.le_refl _) (.bool true))
                    clear hl'
                    go_wp2_with fail
                    exact ⟨⟨j + 1, true, hd'.set x.b true, by omega, by simp, rfl, HOP.out, B1s.out, B2s.out, GXs.out⟩, by simp [Go.RowKit.intOf]; omega⟩
              · have t5 : ((kindOf T (j : Int) : Int) != 5) = true := by rw [bne_iff_ne]; omega
                have t6 : ((kindOf T (j : Int) : Int) == 5) = false := by rw [beq_eq_false_iff_ne]; omega
                have H5 := Lib.hid h5; clear h5
                generalize kindOf T (j : Int) = q at k0 t5 t6
                go_wp2_with fail
                refine ⟨⟨j + 1, m, hd', by omega, by simp, rfl, SC.out.skip (fun i x hx e hk h1 _ => ?_), B1.out, B2.out, GX.out⟩, by simp [Go.RowKit.intOf]; omega⟩
                exfalso
                refine H5.out ?_
                rw [← e, (kindOf_succ hx).1]
                exact hk
          · obtain rfl : j = n := by omega
            have t0 : decide ((j : Int) < (j : Int)) = false := by simp
            have hcm := cntAt_eq B1.out
            have hcl := cntAt_eq BL.out
            have hle : cnt hd' ≤ j := by have := cnt_le hd'; rw [SC.out.ok.len] at this; rw [HN.out]; exact this
            cases m with
            | true =>
              have HY := Lib.hid (SC.out.yes rfl)
              have HM1 : Hid (j - cntAt wi w1.heap.size < j - cntAt wo w1.heap.size) := by
                show _ < _
                rw [hcm, hcl]
                have := HY.out; omega
              have HSC := Lib.hid SC.out.ok
              clear hcm hcl
              go_wp2_with fail
              exact ⟨⟨hd', HSC.out, B1.out, GX.out⟩, HM1.out⟩
            | false =>
              have HTL := Lib.hid (SC.out.tells HP.out (by have := HN.out; omega))
              have hK := K1.out.gr GX.out
              have hF : KnowFull w0 wi T (.slice Ak (T.length + 1) ck) vp1 := by
                obtain ⟨q1, R, q2, q3⟩ := F1.out
                exact ⟨q1.mono GX.out, R, q2.mono GX.out, q3⟩
              have HKF := Lib.hid hK; have HFF := Lib.hid hF
              clear hK hF hcm hcl
              go_wp2_with fail
              rw [Exit.noGoto_ret]
              go_ret
              rw [← HOUT.out] at HTL
              exact ⟨go, out, _, _, by have h1 := HGO.out; have h2 := G.out.size; have h3 := T1.out.size; omega, rfl, B2.out, HTL.out, HKF.out, HFF.out, T1.out.trans (Tch.gr GX.out)⟩
    · intro x c kl y ys w3 cnt1 hkey hlx hv hat hrg1 hlt hg1 hs1 hen
      obtain ⟨x', ex, rfl, hwx⟩ := Go.Maps.keyOf_int_inv Try.underlying3 hkey
      cases ex
      have hin : x ∈ ls := by
        have := RI.out.lf _ hlx
        rw [HD.out] at this
        simpa using this
      have hx2 := HLS.out x hin
      obtain ⟨m, rfl, hmn⟩ : ∃ m : Nat, x = (m : Int) ∧ m < n := by
        unfold outside at hx2
        simp at hx2
        have := HN.out
        exact ⟨x.toNat, by omega, by omega⟩
      have hb3 : Blk w3 w1.heap.size 4 (hd.map boolc) := (hg1.block _ RI.out.blk.lt (by simp)).trans RI.out.blk
      have c0 : w3.cell? ⟨w1.heap.size, m, none⟩ = some (.bool (dAt hd m)) := (hb3.cell m).trans (boolc_at (by rw [RI.out.hl]; exact hmn))
      have y0 := hb3.free m
      have hl3 := hb3.lt
      obtain ⟨w4, hw4⟩ : ∃ w4, w4 = w3.setCell ⟨w1.heap.size, m, none⟩ (.bool true) := ⟨_, rfl⟩
      have HST := Lib.hid (RI.out.step HD.out m hmn hlx hrg1 hg1 (Nat.le_refl _) (Nat.le_succ _) (by omega) (fun e => by have h := HM.out.lt; have h2 := T1.out.size; omega) hw4)
      have HLT : Hid (w4.rangeLeft bs (w1.heap.size + 1) < wr.rangeLeft bs (w1.heap.size + 1)) := by
        show _ < _
        rw [HST.out.rg.left_eq, RI.out.rg.left_eq]; exact hlt
      have HW4 := Lib.hid hw4
      clear hkey hlx hv hat hrg1 hlt hg1 hs1 hin hx2 hb3 hw4 hwx RI hrg
      go_wp2_with fail
      rw [← HW4.out]
      refine ⟨⟨_, _, _, HST.out⟩, HLT.out⟩
end Go.Proofs.Ythlnoaalhojphaa
