/- Own texts, one behind the other. No condition. -/
import Derived.Test.YtdkmlmbehlooiaaGreatDoorObPkBV
import Derived.Stop.Joined
import Derived.Handed
import Derived.Test.YtdkmlmbehlooiaaGreatDoorRows
import Derived.Lay
import Derived.LaidMore
import Derived.LaidOnce
import Derived.PinnedBridge
import Derived.Lib.LaidU8
import Derived.Stop.LaidErr
set_option linter.unusedVariables false
set_option linter.unusedSimpArgs false
namespace Go.Proofs.YtdkmlmbehlooiaaGreatDoor
section
open Go.RowKit
theorem symBase {w0 w1 w : World} {p g bm bs : Nat} {T : List Nd} (h : SymS w1 w p g bm bs T) (hb : Gr w0 w1) : SymS w0 w p g bm bs T := by
 obtain ⟨vl, vs, ht⟩ := h.t
 exact ⟨h.blk, ⟨vl, vs, ⟨⟨ht.x.blk, ht.x.l.base hb, ht.x.s.base hb, Nat.le_trans hb.size ht.x.ge, Nat.le_trans hb.size ht.x.gm⟩, ht.m⟩⟩, h.i⟩
theorem mst_new {w0 w1 w : World} {dp kb p g bm bs n : Nat} {vP vA : Value} (hd : DkM w0 w1 dp kb vP vA (Dk.new n)) (hs : SymS w1 w p g bm bs []) (hge : w1.heap.size ≤ bs) (hne : bs ≠ bm) (hm : w.heap[bs]? = some (.map #[] 0)) :
 MSt w0 ⟨p, g, bm, bs, dp, kb⟩ ⟨[], [], Dk.new n⟩ w :=
 ⟨symBase hs hd.below, SumM.nil hm, hne, Nat.le_trans hd.below.size hge, vP, vA, hd.mono hs.below⟩
theorem avTree {w0 w : World} {L : Pl} {pt : Nat} (h : OpT w0 L av12 ⟨2, 0, 1⟩ avK1 avQ pt w) : MSt w0 L av12 w ∧ ∃ ps pl b c R A kc next, TrP w0 L av12 72 ⟨2, 0, 1⟩ (.pointer (some ⟨pl, 0, none⟩)) next false (.slice A 32 kc) pt ps b c R w ∧ TrE av12 R [97] avS1 avS2 avK1 avK2 [7] ∧ Bs w A 32 kc avK1 := by
 obtain ⟨ps, pl, b, c, R, A, kc, next, hm, ht, hk, hs, hp, hR, c1, c2⟩ := h.ex
 obtain ⟨r0, r1, r2, hr, e0, e1, e2⟩ := row3 (show R.map BRow.l = [avB0, [], avB2] from hR)
 have hq : ∀ r ∈ R, r.l.length = r.n := fun r hx => by have := (hp.q r hx).b.len; simpa using this
 refine ⟨hm, ps, pl, b, c, R, A, kc, next, ⟨hm, ?_, by decide, ht, hs, hp, c1, c2, fun r hx => ?_⟩, ⟨⟨r0, r1, r2, hr, e0, e1, e2⟩, by decide, by decide, av_right, avK_len.2.2.2.2.1, by rw [avK_len.2.2.2.1]; decide, by rw [avK_len.2.2.2.1]; decide, avK_len.2.2.1, by decide +kernel, by decide +kernel⟩, hk.b⟩
 · exact (av11_ok.begin 2 1 3 ⟨2, 0, 1⟩ avQ).le (by decide)
 · have hl := hq r hx
   rw [hr] at hx
   rcases List.mem_cons.1 hx with q | hx
   · rw [q, e0, avK_len.2.2.2.2.2.2] at hl; rw [q]; omega
   · rcases List.mem_cons.1 hx with q | hx
     · rw [q, e1] at hl; rw [q, ← hl]; decide
     · have q := List.mem_singleton.1 hx
       rw [q, e2, avK_len.2.2.2.2.2.1] at hl; rw [q]; omega
set_option maxRecDepth 100000 in
set_option maxHeartbeats 4000000 in
theorem alive30_any (w : World) (hT : U8 w) : Calls Tryz.prog 5 #[] w fun e w' => e = .returned (.bool true) ∧ Gr w w' := by
 obtain ⟨W, hW⟩ : ∃ W, W = w.alloc (.cells #[.int .i64 2, .int .i64 1, .int .i64 3] 23) := ⟨_, rfl⟩
 have HG : Hid (Gr w W) := by show Gr _ _; rw [hW]; exact Gr.alloc _ _
 have HU : Hid (U8 W) := Lib.hid (hT.mono HG.out)
 have B0 : Hid (Blk W w.heap.size 23 [.int .i64 2, .int .i64 1, .int .i64 3]) := by show Blk _ _ _ _; rw [hW]; exact Blk.new w _ _
 have HC : Hid (∀ wr, Gr W wr → wr.cell? ⟨w.heap.size, 0, none⟩ = some (.int .i64 2) ∧ wr.cell? ⟨w.heap.size, 1, none⟩ = some (.int .i64 1) ∧ wr.cell? ⟨w.heap.size, 2, none⟩ = some (.int .i64 3)) := fun wr g => ⟨(B0.out.mono g).cell 0, (B0.out.mono g).cell 1, (B0.out.mono g).cell 2⟩
 have HW := Lib.hid hW
 clear hW hT B0
 go_enter Tryz.func5, Tryz.ntmps5
 go_wp2_with fail
 rw [← HW.out]
 refine (diskNew_any W W (Gr.refl _) 13 (by decide) (by decide)).mono ?_
 rintro e w1 ⟨dp, kb, vP, vA, rfl, d1, g1, gd, gk⟩
 have D1 := Lib.hid d1
 clear d1 g1 gd gk
 go_wp2_with fail
 refine (symbolic2_any w1).mono ?_
 rintro e w2 ⟨p, g, bm, bs, rfl, s2, hp2, hne, hm2, hb2⟩
 obtain ⟨L, hL⟩ : ∃ L : Pl, L = ⟨p, g, bm, bs, dp, kb⟩ := ⟨_, rfl⟩
 have M2 : Hid (MSt W L av0 w2) := by show MSt _ _ _ _; rw [hL]; exact mst_new D1.out s2 hb2 hne hm2
 have hp : p = L.p := by rw [hL]
 have hd : dp = L.dp := by rw [hL]
 rw [hp, hd]
 clear D1 s2 hp2 hne hm2 hb2 hL hp hd
 have HF := Lib.hid (treeFormat_any 3 M2.out av0_fit av0_live av0_ok (by decide) (by decide))
 rw [av4_eq] at HF
 obtain ⟨c0, c1, c2⟩ := HC.out w2 M2.out.below
 go_wp2_with fail
 refine HF.out.mono ?_
 rintro e w3 ⟨pt, ps, pl, bb, A, c, rfl, m3, t3, q3, s3, l3, b3, h1, h2, h3, h4⟩
 have M3 : Hid (MSt W L av4 w3) := m3
 obtain ⟨w4, hw4⟩ : ∃ w4, w4 = w3.alloc (.cells #[.int .u8 7] 5) := ⟨_, rfl⟩
 obtain ⟨w5, hw5⟩ : ∃ w5, w5 = w4.alloc (.cells (chgC (some ⟨w3.heap.size, 0, none⟩) 1) 47) := ⟨_, rfl⟩
 have hsz4 : w4.heap.size = w3.heap.size + 1 := by rw [hw4]; exact World.size_alloc _ _
 have g4 : Gr w3 w4 := by rw [hw4]; exact Gr.alloc _ _
 have g5 : Gr w4 w5 := by rw [hw5]; exact Gr.alloc _ _
 have bv : Blk w5 w3.heap.size 5 (([7] : List UInt8).map u8c) := (show Blk w4 w3.heap.size 5 (([7] : List UInt8).map u8c) by rw [hw4]; exact Blk.new w3 5 #[.int .u8 7]).mono g5
 have bc : Blk w5 w4.heap.size 47 (chgC (some ⟨w3.heap.size, 0, none⟩) 1).toList := by rw [hw5]; exact Blk.new w4 _ _
 have qv : QB L.kb w5 (some ⟨w3.heap.size, 0, none⟩) 1 1 [7] := ⟨⟨rfl, Nat.le_refl _, by decide, fun _ => ⟨_, 0, rfl, fun j u hu => by rw [Nat.zero_add, bv.cell]; exact hu⟩⟩, fun b o _ e => by
  injection e with e
  injection e with e1 e2
  subst e1
  exact ⟨_, _, _, bv, by unfold tyB; decide, fun e => absurd e (by decide)⟩⟩
 have TP : TrP W L av4 40 ⟨1, 0, 0⟩ (.pointer (some ⟨pl, 0, none⟩)) 0 false (.slice A 32 c) pt ps bb 3 (List.replicate 3 ⟨none, 0, 0, []⟩) w5 :=
  (show TrP W L av4 40 ⟨1, 0, 0⟩ (.pointer (some ⟨pl, 0, none⟩)) 0 false (.slice A 32 c) pt ps bb 3 (List.replicate 3 ⟨none, 0, 0, []⟩) w3 from
   ⟨m3, av4_ok, by decide, t3, s3, Pgo.new (w := W) (by decide) (by decide) m3.below h4 b3, by decide, by decide, fun r hr => by rw [List.eq_of_mem_replicate hr]; decide⟩).gr (g4.trans g5)
 have HA := Lib.hid (treeApply_any TP av4_fit av4_live (by decide) HU.out h1 h2 h3 (l3.mono (g4.trans g5)) (by decide) (by decide) (by decide) ⟨none, 0, 0, []⟩ rfl rfl bc qv)
 rw [av11_eq, hsz4] at HA
 have HW4 := Lib.hid hw4; have HW5 := Lib.hid hw5; have HS4 := Lib.hid hsz4
 clear c0 c1 c2 HF m3 t3 q3 s3 l3 b3 h1 h2 h3 h4 bv bc qv TP g4 g5 hw4 hw5 hsz4
 go_wp2_with (refine wpList_plain rfl (fun _ hK => wp_build1 48 47 (.tmp 27) rfl (chgC (some ⟨w3.heap.size, 0, none⟩) 1) rfl Tryz.underlying48 chgSize (by kernel_rfl) (show 0 < 4 by decide) (show 4 ≤ 2 ^ 24 by decide) (hK _ _ ?_)))
 rw [← HW4.out, ← HW5.out]
 refine HA.out.mono ?_
 rintro e w6 ⟨rfl, m6⟩
 clear HA HW4 HW5 HS4 M3
 have M6 : Hid (MSt W L av11 w6) := m6
 have HO := Lib.hid (treeOpen_any m6 av11_E HU.out)
 obtain ⟨c0, c1, c2⟩ := HC.out w6 m6.below
 clear m6
 go_wp2_with fail
 refine HO.out.mono ?_
 rintro e w7 ⟨p7, rfl, o7⟩
 obtain ⟨m7, ps7, pl7, b7, c7, R7, A7, k7, n7, tp, te, hb⟩ := avTree (show OpT W L av12 ⟨2, 0, 1⟩ avK1 avQ p7 w7 from o7)
 have HGT := Lib.hid (treeGet_any tp [97] avS1 avS2 avK1 avK2 [7] te (HU.out.mono m7.below) hb)
 have G7 : Hid (Gr w w7) := HG.out.trans m7.below
 clear c0 c1 c2 HO M6 o7 m7 tp te hb
 go_wp2_with fail
 refine HGT.out.mono ?_
 rintro e w8 ⟨A8, n8, c8, rfl, b8, g8⟩
 have hn8 : n8 = 1 := by have := b8.len; simpa using this.symm
 subst hn8
 obtain ⟨b9, o9, rfl, hc9⟩ := Sl.addr b8 (by decide)
 have e9 : w8.cell? ⟨b9, o9, none⟩ = some (.int .u8 7) := hc9 0 _ rfl
 have hcx := b8.cap; have hmx := b8.max
 have G8 : Hid (Gr w w8) := G7.out.trans g8
 clear hc9 b8 g8 HGT
 go_wp2_with fail
 go_ret
 exact ⟨rfl, G8.out⟩
end
section
open Go.RowKit
theorem refSize_any (a d l : Int) (h : Geo a d l) (w : World) : Calls Tryz.prog 7 #[.agg #[.int .i64 a, .int .i64 d, .int .i64 l]] w (RetI w (sizeI a d l)) := by
 have hpl := pgE a d l
 obtain ⟨h3, h4⟩ := h.l
 have hb : Below w.heap.size w (w.alloc (.cells #[.int .i64 a, .int .i64 d, .int .i64 l] 23)) := (Below.refl _ _).alloc (Nat.le_refl _) _
 have hc := (Blk.new w 23 #[.int .i64 a, .int .i64 d, .int .i64 l])
 obtain ⟨wl, hwl⟩ : ∃ wl, wl = w.alloc (.cells #[.int .i64 a, .int .i64 d, .int .i64 l] 23) := ⟨_, rfl⟩
 rw [← hwl] at hb hc
 have HB := Lib.hid hb; have HWL := Lib.hid hwl; clear hb hwl
 have HCELL : Hid (∀ (i : Nat) (v : Value), [Value.int .i64 a, .int .i64 d, .int .i64 l][i]? = some v → ∀ wq, Below wl.heap.size wl wq → wq.cell? ⟨w.heap.size, i, none⟩ = some v) := by
  intro i v hv wq hq
  rw [hq.cell (p := ⟨w.heap.size, i, none⟩) hc.lt, hc.cell]
  exact hv
 clear hc
 have HR := Lib.hid (fun wr => refGeoRight_any a d l wr)
 rw [h.r] at HR
 have HPG := Lib.hid (fun wr => refPages_any a d l wr)
 unfold sizeI
 generalize pagesI a d l = p at *
 have w1 : IntKind.i64.wrap (2 * p) = 2 * p := IntWalk.i64_in _ (by omega)
 have w2 : IntKind.i64.wrap (4 + l) = 4 + l := IntWalk.i64_in _ (by omega)
 have w3 : IntKind.i64.wrap (4 + l + 2 * p) = 4 + l + 2 * p := IntWalk.i64_in _ (by omega)
 have HW3 := Lib.hid (show IntKind.i64.wrap (IntKind.i64.wrap (4 + l) + IntKind.i64.wrap (2 * p)) = 4 + l + 2 * p by rw [w1, w2, w3])
 clear h
 go_enter Tryz.func7, Tryz.ntmps7
 go_upto_region 1 with fail
 rw [← HWL.out]
 have c0 := HCELL.out 0 _ rfl wl (Below.refl _ _)
 have c1 := HCELL.out 1 _ rfl wl (Below.refl _ _)
 have c2 := HCELL.out 2 _ rfl wl (Below.refl _ _)
 go_wp2_with fail
 refine (HR.out wl).mono ?_
 rintro e w1 ⟨rfl, b1⟩
 have B1 := Lib.hid b1; clear b1 c0 c1 c2
 go_upto_region 4 with fail
 refine wp_region_quiet (C := fun w' => Below (w1).heap.size (w1) w') (by kernel_rfl) (by kernel_rfl) (Below.refl _ _).drew ?_
 simp only
 repeat (first
  | go_big_quiet_skip
  | (go_big_quiet_want
     apply Exists.intro
     refine ⟨fun wq hq => ?_, ?_⟩
     · (have c0 := HCELL.out 0 _ rfl wq (bBo B1.out hq); have c1 := HCELL.out 1 _ rfl wq (bBo B1.out hq); have c2 := HCELL.out 2 _ rfl wq (bBo B1.out hq)
        go_simp
        first
         | done
         | exact rfl
         | (with_reducible exact ⟨rfl, rfl⟩)
         | (go_at_call 18; exact (HPG.out wq).mono fun e w2 ⟨he, hb⟩ => ⟨he, bBo hq hb⟩))
     go_simp
     go_big_quiet_on))
 refine wpQuiet_nil ?_
 intro wq hq
 have HQ := Lib.hid hq; clear hq
 go_wp2
 go_ret
 exact ⟨by first | rfl | rw [w3], bBo HB.out (bBo B1.out HQ.out)⟩
theorem decR_blank (S : List (List UInt8)) (place : Nat) : (decR S place blankL).2 = 7 := by
 unfold decR decS
 rw [if_pos rfl]
theorem super_blank {S : List (List UInt8)} {a d l : Int} {n : Nat} (h : 4 ≤ n) : superR S a d l (List.replicate n blankL) = none := by
 have hb : ∀ k, k < 4 → superB S a d l k ((List.replicate n blankL).getD k []) = none := fun k hk => by
  have e : (List.replicate n blankL).getD k [] = blankL := by
   rw [List.getD_eq_getElem?_getD, List.getElem?_replicate, if_pos (by omega)]
   rfl
  rw [e]
  unfold superB
  rw [if_neg (fun q => absurd (q.1.symm.trans (decR_blank S k)) (by decide))]
 unfold superR
 rw [hb 2 (by decide), hb 3 (by decide)]
 rfl
set_option maxRecDepth 100000 in
set_option maxHeartbeats 4000000 in
theorem treeNils_walk (a d l s : Int) (w : World) (hT : U8 w) :
 Calls Tryz.prog 3 #[.agg #[.int .i64 a, .int .i64 d, .int .i64 l], .int .i64 s] w fun e w' => e = .returned (.bool true) ∧ Below w.heap.size w w' := by
 have hb : Below w.heap.size w (w.alloc (.cells #[.int .i64 a, .int .i64 d, .int .i64 l] 23)) := (Below.refl _ _).alloc (Nat.le_refl _) _
 have hc := (Blk.new w 23 #[.int .i64 a, .int .i64 d, .int .i64 l])
 obtain ⟨wl, hwl⟩ : ∃ wl, wl = w.alloc (.cells #[.int .i64 a, .int .i64 d, .int .i64 l] 23) := ⟨_, rfl⟩
 rw [← hwl] at hb hc
 have HB := Lib.hid hb; have HWL := Lib.hid hwl; clear hb hwl
 have HCELL : Hid (∀ (i : Nat) (v : Value), [Value.int .i64 a, .int .i64 d, .int .i64 l][i]? = some v → ∀ wq, Below wl.heap.size wl wq → wq.cell? ⟨w.heap.size, i, none⟩ = some v) := by
  intro i v hv wq hq
  rw [hq.cell (p := ⟨w.heap.size, i, none⟩) hc.lt, hc.cell]
  exact hv
 clear hc
 have HT := Lib.hid hT; clear hT
 have HR := Lib.hid (fun wr => refGeoRight_any a d l wr)
 have HAL := Lib.hid (fun wr (g : Gr w wr) => alive30_any wr (HT.out.mono g))
 have HB2 : Hid (Gr w wl) := HB.out
 cases hr : rightB a d l
 · rw [hr] at HR
   go_enter Tryz.func3, Tryz.ntmps3
   go_upto_region 1 with fail
   rw [← HWL.out]
   have c0 := HCELL.out 0 _ rfl wl (Below.refl _ _)
   have c1 := HCELL.out 1 _ rfl wl (Below.refl _ _)
   have c2 := HCELL.out 2 _ rfl wl (Below.refl _ _)
   go_wp2_with fail
   refine (HR.out wl).mono ?_
   rintro e w1 ⟨rfl, b1⟩
   have B1 : Hid (Gr w w1) := HB2.out.trans (show Gr wl w1 from b1)
   clear b1 c0 c1 c2
   go_wp2_with fail
   refine (HAL.out w1 B1.out).mono ?_
   rintro e w2 ⟨rfl, g2⟩
   have G2 : Hid (Gr w w2) := B1.out.trans g2
   clear g2
   go_wp2_with fail
   go_ret
   exact ⟨rfl, G2.out⟩
 · rw [hr] at HR
   have g : Geo a d l := ⟨hr⟩
   have hpl := pgE a d l
   obtain ⟨h3, h4⟩ := g.l
   obtain ⟨n, hn⟩ : ∃ n : Nat, (n : Int) = sizeI a d l := ⟨(sizeI a d l).toNat, by unfold sizeI at *; omega⟩
   have hn1 : 4 ≤ n ∧ n ≤ 1024 := by unfold sizeI at hn; omega
   have HSZ := Lib.hid (fun wr => refSize_any a d l g wr)
   rw [← hn] at HSZ
   have HN1 := Lib.hid hn1; have HNE := Lib.hid hn; have HGE := Lib.hid g
   clear hr g hpl h3 h4 hn hn1
   go_enter Tryz.func3, Tryz.ntmps3
   go_upto_region 1 with fail
   rw [← HWL.out]
   have c0 := HCELL.out 0 _ rfl wl (Below.refl _ _)
   have c1 := HCELL.out 1 _ rfl wl (Below.refl _ _)
   have c2 := HCELL.out 2 _ rfl wl (Below.refl _ _)
   go_wp2_with fail
   refine (HR.out wl).mono ?_
   rintro e w1 ⟨rfl, b1⟩
   have B1 : Hid (Gr wl w1) := show Gr wl w1 from b1
   clear b1 c0 c1 c2
   have c0 := HCELL.out 0 _ rfl w1 B1.out
   have c1 := HCELL.out 1 _ rfl w1 B1.out
   have c2 := HCELL.out 2 _ rfl w1 B1.out
   go_wp2_with fail
   refine (HSZ.out w1).mono ?_
   rintro e w2 ⟨rfl, b2⟩
   have B2 : Hid (Gr wl w2) := B1.out.trans (show Gr w1 w2 from b2)
   clear b2 c0 c1 c2
   go_wp2_with fail
   refine (diskNew_any w2 w2 (Gr.refl _) n (by have := HN1.out; omega) HN1.out.2).mono ?_
   rintro e w3 ⟨dp, kb, vP, vA, rfl, d3, g3, gd, gk⟩
   have D3 := Lib.hid d3
   clear d3 g3 gd gk
   go_wp2_with fail
   refine (symbolic2_any w3).mono ?_
   rintro e w4 ⟨p, g, bm, bs, rfl, s4, hp4, hne, hm4, hb4⟩
   obtain ⟨L, hL⟩ : ∃ L : Pl, L = ⟨p, g, bm, bs, dp, kb⟩ := ⟨_, rfl⟩
   have M4 : Hid (MSt w2 L ⟨[], [], Dk.new n⟩ w4) := by show MSt _ _ _ _; rw [hL]; exact mst_new D3.out s4 hb4 hne hm4
   have hp : p = L.p := by rw [hL]
   have hd : dp = L.dp := by rw [hL]
   rw [hp, hd]
   have B4 : Hid (Gr wl w4) := B2.out.trans M4.out.below
   clear D3 s4 hp4 hne hm4 hb4 hL hp hd
   have hlen : (List.replicate n blankL).length = n := List.length_replicate
   have HO := Lib.hid (treeOpenBad_any (m := ⟨[], [], Dk.new n⟩) (n := 0) M4.out ⟨HGE.out, by show ((List.replicate n blankL).length : Int) = _; rw [hlen]; exact HNE.out⟩ ⟨Nat.le_refl _, Nat.le_refl _, Nat.le_refl _, Nat.le_refl _, by show (List.replicate n blankL).length ≤ 1024; rw [hlen]; exact HN1.out.2, by show (-1 : Int) ≤ -1; decide, by show (-1 : Int) ≤ 9223372036854775807; decide, fun x h => absurd h (by simp)⟩ (by decide) rfl rfl (super_blank HN1.out.1))
   have c0 := HCELL.out 0 _ rfl w4 B4.out
   have c1 := HCELL.out 1 _ rfl w4 B4.out
   have c2 := HCELL.out 2 _ rfl w4 B4.out
   clear hlen
   go_wp2_with fail
   refine HO.out.mono ?_
   rintro e w5 ⟨rfl, _, g5⟩
   have B5 : Hid (Gr wl w5) := B4.out.trans g5
   clear g5 c0 c1 c2 HO
   have c0 := HCELL.out 0 _ rfl w5 B5.out
   have c1 := HCELL.out 1 _ rfl w5 B5.out
   have c2 := HCELL.out 2 _ rfl w5 B5.out
   go_wp2_with fail
   refine (treeOpenNil_any (.pointer (some ⟨L.p, 0, none⟩)) ⟨_, rfl⟩ w5).mono ?_
   rintro e w6 ⟨rfl, g6⟩
   have B6 : Hid (Gr wl w6) := B5.out.trans g6
   clear g6 c0 c1 c2
   have c0 := HCELL.out 0 _ rfl w6 B6.out
   have c1 := HCELL.out 1 _ rfl w6 B6.out
   have c2 := HCELL.out 2 _ rfl w6 B6.out
   go_wp2_with fail
   refine (treeFormatNil_any ⟨L.dp, 0, none⟩ w6).mono ?_
   rintro e w7 ⟨rfl, g7⟩
   have B7 : Hid (Gr w w7) := HB2.out.trans (B6.out.trans g7)
   clear g7 c0 c1 c2
   have HAW := Lib.hid (HAL.out w7 B7.out)
   go_wp2_with (first
    | (go_at_call 11; refine (getNil_any s w7).mono ?_; rintro e w8 ⟨rfl, rfl⟩)
    | (go_at_call 12; refine (applyNil_any _ w7).mono ?_; rintro e w8 ⟨rfl, rfl⟩)
    | (go_at_call 13; refine (fitsNil_any _ w7).mono ?_; rintro e w8 ⟨rfl, rfl⟩)
    | (go_at_call 14; refine (headsNil_any w7).mono ?_; rintro e w8 ⟨rfl, rfl⟩)
    | (go_at_call 15; refine (genNil_any w7).mono ?_; rintro e w8 ⟨rfl, rfl⟩)
    | (go_at_call 16; refine (deadNil_any w7).mono ?_; rintro e w8 ⟨rfl, rfl⟩)
    | (go_at_call 5; refine HAW.out.mono ?_; rintro e w9 ⟨rfl, g9⟩; have B9 := Lib.hid (B7.out.trans g9); clear g9))
   go_ret
   exact ⟨rfl, B9.out⟩
end
section
open Go.RowKit
section
variable {H : Type} {enc : TypeId × Value → H}
theorem handed_shaped {a : Assume} {C : Checked} {os : Os} {f : FuncId} {fn : Func} {s : ChangeSpec} {conds : List PathCond} {apart fresh handsOn again : Bool} {X : World → Array Value → Prop}
 (hX : ∀ (w w' : World) (args : Array Value), w.heap = w'.heap → X w args → X w' args)
 (own : ownKnob C.prog.godebug = none) (started : os.Started) (noInit : C.prog.inits.idxOf? f = none) (hfn : C.prog.funcs[f]? = some fn)
 (witness : ∃ (w : World) (tape : Tape) (i : Input), w.os = os ∧ (w.forCall tape i).Shaped C.prog ∧ i.vars = [] ∧ Input.okWide C.prog (w.forCall tape i) .any w.heap.size f i ∧
  ((s.pre enc C.prog fn conds apart (w.forCall tape i).memory i.args ∧ X (w.forCall tape i).memory i.args) ∧ sizedMet enc C.prog fn (OpenSpec.ofChange s) apart (w.forCall tape i).memory i.args) ∧ a.holds C.prog (lone (Frame.enter C.prog f i.args .normal) [] (w.forCall tape i)))
 (contract : ∀ (W : World) (base : Nat) (args : Array Value) (ds gs : List (DataW H)) (before : List MemPlace),
  (∀ (j : Nat) t v, fn.params[j]? = some t → args[j]? = some v → Value.okWide C.prog W .any base t v) →
  DataW.Whole enc C.prog fn.params.toList s.vars apart W args.toList ds gs before → X W args → W.ShapedOpen C.prog →
  Calls C.prog f args W fun e W' => ∃ v, e = .returned v ∧ s.post enc C.prog fn apart fresh handsOn again W args v W') :
 ReturnsInHanded a C os f .any (fun w args => (s.pre enc C.prog fn conds apart w args ∧ X w args) ∧ sizedMet enc C.prog fn (OpenSpec.ofChange s) apart w args) (s.post enc C.prog fn apart fresh handsOn again) := by
 refine returnsInHanded_of_calls own started noInit witness fun w tape i _ hshape _ hok hpre _ => ?_
 obtain ⟨_, _, _, fn', hfn', _, _, _, _, hval⟩ := hok
 obtain rfl : fn' = fn := Option.some.inj (hfn'.symm.trans hfn)
 obtain ⟨⟨⟨ds, gs, before, hw, _⟩, hx⟩, _⟩ := hpre
 refine (contract (w.forCall tape i) w.heap.size i.args ds gs before hval (DataW.Whole.of_heap (w' := w.forCall tape i) (by rfl) hw) (hX _ _ _ (by rfl) hx) hshape).mono fun e W' ⟨v, he, hp⟩ => ?_
 subst he
 exact ChangeSpec.post_blind hp
end
section
variable {H : Type} {enc : TypeId × Value → H} {P : Program} {W : World}
end
end
section
open Go.RowKit Go.Shelf Go.Lib
abbrev laidS : List (String × DataW Unit) := [("math/bits.deBruijn32tab", Rows.laid_math_bits_deBruijn32tab), ("math/bits.deBruijn64tab", Rows.laid_math_bits_deBruijn64tab), ("internal/strconv.uint64pow10", Rows.laid_internal_strconv_uint64pow10), ("unicode/utf8.acceptRanges", Rows.laid_unicode_utf8_acceptRanges), ("oubliette/sha.k", Rows.laid_oubliette_sha_k), ("unicode/utf8.first", Rows.laid_unicode_utf8_first)]
theorem accept_eq : (Rows.laid_unicode_utf8_acceptRanges : DataW Unit) = acceptData := by kernel_rfl
theorem u8x : U8Extra Tryz.prog Tryz.lays260_ren := ⟨by kernel_rfl, by kernel_rfl, by kernel_rfl, by kernel_rfl, by kernel_rfl, by kernel_rfl, by kernel_rfl⟩
theorem u8tabs_of {W : World} (h : laidMetH Tryz.prog laidS W) : U8 W := by
 rw [MakeChecks.laidMetH_plain _ _ _ (by kernel_rfl)] at h
 exact utf8Tabs_of_reads Tryz.lays260 u8x (Pinned.utf8First_eq ▸ laidMet.reads h (.tail _ (.tail _ (.tail _ (.tail _ (.tail _ (.head _))))))) (accept_eq ▸ laidMet.reads h (.tail _ (.tail _ (.tail _ (.head _)))))
theorem laid_met (os : Os) (args : Array Value) : laidMetH Tryz.prog laidS ((World.laidAll Tryz.prog os laidS).forCall (fun _ _ => 0) ⟨#[], args, []⟩).memory := by
 rw [MakeChecks.laidMetH_plain _ _ _ (by kernel_rfl)]
 exact laidMet_laidAll _ (by kernel_rfl) (by kernel_rfl)
end
end Go.Proofs.YtdkmlmbehlooiaaGreatDoor
