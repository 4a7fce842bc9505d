/- Own texts, one behind the other. No condition. -/
import Derived.Test.YtdkmlmbehlooiaaGreatDoorObPkBG
set_option linter.unusedVariables false
set_option linter.unusedSimpArgs false
namespace Go.Proofs.YtdkmlmbehlooiaaGreatDoor
section
open Go.RowKit
theorem snapPuts_live {a d l : Int} {life : Nat} : ∀ (P : List (List UInt8)) (m : Mc) (k : Nat), m.Live → (m.snapPuts a d l life k P).2 = 0 ∧ (m.snapPuts a d l life k P).1.Live
 | [], m, k, h => ⟨rfl, h⟩
 | b :: bs, m, k, h => by
  obtain ⟨h1, h2⟩ := (h.enc (areaN a d l life k) (pageSec life k b)).write (areaN a d l life k) (encS m.S (areaN a d l life k) (pageSec life k b))
  have e : m.snapPuts a d l life k (b :: bs) = if (m.snapPut a d l life k b).2 = 0 then (m.snapPut a d l life k b).1.snapPuts a d l life (k + 1) bs else m.snapPut a d l life k b := rfl
  have h1' : (m.snapPut a d l life k b).2 = 0 := h1
  rw [e, if_pos h1']
  exact snapPuts_live bs _ (k + 1) h2
theorem thenM_live {r : Mc × Int} {f : Mc → Mc × Int} (h : r.2 = 0 ∧ r.1.Live) (hf : ∀ m : Mc, m.Live → (f m).2 = 0 ∧ (f m).1.Live) : (thenM r f).2 = 0 ∧ (thenM r f).1.Live := by
 unfold thenM
 rw [if_pos h.1]
 exact hf _ h.2
theorem Mc.Live.snapWrite {m : Mc} (h : m.Live) (a d l : Int) (life : Nat) (P : List (List UInt8)) : (m.snapWrite a d l life P).2 = 0 ∧ (m.snapWrite a d l life P).1.Live := thenM_live (snapPuts_live P m 0 h) (fun m h => h.flush)
theorem Mc.Live.superWrite {m : Mc} (h : m.Live) (a d l : Int) (x : Spr) : (m.superWrite a d l x).2 = 0 ∧ (m.superWrite a d l x).1.Live := thenM_live ((h.enc _ _).write _ _) (fun m h => h.flush)
theorem Mc.Live.clear {m : Mc} (h : m.Live) : m.clear.2 = 0 ∧ m.clear.1.Live := thenM_live (thenM_live (h.write _ _) (fun m h => h.write _ _)) (fun m h => h.flush)
section
variable {w0 w w' : World} {L : Pl} {m : Mc} {n : Nat} {a d l : Int} {x y : Spr} {vl vp : Value} {next : Nat} {due dead : Bool} {ps pv py : Nat}
structure BgI (L : Pl) (a d l : Int) (x y : Spr) (vl : Value) (next : Nat) (vp : Value) (due dead : Bool) (ps pv py : Nat) (w : World) : Prop where
 s : Blk w ps 111 (storeC L a d l x vl next vp due dead)
 v : Blk w pv 63 [.pointer (some ⟨ps, 0, none⟩)]
 y : Blk w py 108 (sprC y).toList
theorem BgI.gr (h : BgI L a d l x y vl next vp due dead ps pv py w) (g : Gr w w') : BgI L a d l x y vl next vp due dead ps pv py w' := ⟨g.blk h.s, g.blk h.v, g.blk h.y⟩
theorem BgI.kq (h : BgI L a d l x y vl next vp due dead ps pv py w) (k : KQ L.kb w w') : BgI L a d l x y vl next vp due dead ps pv py w' := ⟨store_keep k h.s, k.blk h.v (by unfold tyM; decide) (fun e => absurd e (by decide)), k.blk h.y (by unfold tyM; decide) (fun e => absurd e (by decide))⟩
theorem BgI.cells (h : BgI L a d l x y vl next vp due dead ps pv py w) : w.cell? ⟨pv, 0, none⟩ = some (.pointer (some ⟨ps, 0, none⟩)) ∧ w.cell? ⟨ps, 0, none⟩ = some (.pointer (some ⟨L.dp, 0, none⟩)) ∧ w.cell? ⟨ps, 1, none⟩ = some (.pointer (some ⟨L.p, 0, none⟩)) ∧ w.cell? ⟨ps, 2, none⟩ = some (.int .i64 a) ∧ w.cell? ⟨ps, 3, none⟩ = some (.int .i64 d) ∧ w.cell? ⟨ps, 4, none⟩ = some (.int .i64 l) ∧ w.cell? ⟨ps, 10, none⟩ = some vp ∧
 w.cell? ⟨py, 0, none⟩ = some (.int .u64 (y.life : Int)) ∧ w.cell? ⟨py, 1, none⟩ = some (.int .i64 (y.base : Int)) ∧ w.cell? ⟨py, 2, none⟩ = some (.int .u64 (y.gen : Int)) :=
 ⟨h.v.cell 0, h.s.cell 0, h.s.cell 1, h.s.cell 2, h.s.cell 3, h.s.cell 4, h.s.cell 10, h.y.cell 0, h.y.cell 1, h.y.cell 2⟩
set_option maxRecDepth 100000 in
set_option maxHeartbeats 4000000 in
theorem begin1_any (A : Option Addr) (N c : Nat) (R : List BRow) (h : MSt w0 L m w) (f : Fit m a d l) (hlv : m.Live) (ho : m.Ok n) (hl : y.life < 18446744073709551616) (hP : Pgs L.kb w A N c R) (hlen : (N : Int) = pagesI a d l) (hsm : ∀ r ∈ R, r.n ≤ 479) (hn : n + 2 * N + 1 ≤ 900) (hb : BgI L a d l x y vl next (.slice A N c) due dead ps pv py w) :
 Calls Tryz.prog 142 #[.pointer (some ⟨pv, 0, none⟩), .pointer (some ⟨py, 0, none⟩)] w fun e w' => e = .returned (.int .i64 0) ∧ MSt w0 L (m.snapWrite a d l y.life (R.map BRow.l)).1 w' ∧ KQ L.kb w w' := by
 have hRN := hP.len
 have HCL : Hid (∀ wr, Gr w wr → Calls Tryz.prog 143 #[.pointer (some ⟨L.dp, 0, none⟩), .pointer (some ⟨L.p, 0, none⟩), .agg #[.int .i64 a, .int .i64 d, .int .i64 l], .int .u64 (y.life : Int), .slice A N c] wr (RetF w0 wr L (m.snapWrite a d l y.life (R.map BRow.l)))) := fun wr g => by
  have := snapWrite_any (h.mono g) f ho y.life hl A c R (by rw [hRN]; exact hP.mono g) (by rw [hRN]; exact hlen) hsm (by rw [hRN]; exact hn)
  rwa [hRN] at this
 have HC := Lib.hid (fun wr (g : Gr w wr) => (hb.gr g).cells)
 obtain ⟨r, hr⟩ : ∃ r, r = m.snapWrite a d l y.life (R.map BRow.l) := ⟨_, rfl⟩
 have hz : r.2 = 0 := by rw [hr]; exact (hlv.snapWrite _ _ _ _ _).1
 rw [← hr] at HCL ⊢
 clear h f hlv ho hP hsm hb hr hRN hlen
 go_enter Tryz.func142, Tryz.ntmps142
 go_upto_region 1 with fail
 refine UG.wrU (KQ L.kb) 129 (fun w w' h => h.1) (fun w w' b cs h hb => h.sec hb) (by kernel_rfl) [0, 1, 3, 7, 0, 16, 48, 112, 0, 256, 768, 1792, 0, 4096, 0, 16384, 49152, 114688, 262143, 524287] [.p 12, .q 0, .p 1, .p 2, .q 3, .q 4, .p 5, .p 6, .q 7, .q 8, .p 9, .p 10, .q 11, .q 13, .q 14, .p 15, .p 16, .q 17, .t 18, .p 19] (by kernel_rfl) (trivial) ?_
 refine UG.wPe rfl rfl ?_
 apply Exists.intro
 refine ⟨fun wq => ?_, ?_⟩
 · unfold pLa
   go_simp
   first | exact rfl | exact ⟨rfl, rfl⟩
 go_simp
 refine UG.wQe rfl rfl ?_
 apply Exists.intro
 refine ⟨fun wq hq => ?_, ?_⟩
 · obtain ⟨v0, s0, s1, s2, s3, s4, s10, y0, y1, y2⟩ := HC.out wq ((Gr.drew _).trans hq)
   unfold pLa
   go_simp
   first | exact rfl | exact ⟨rfl, rfl⟩
 go_simp
 iterate 2
  refine UG.wPe rfl rfl ?_
  apply Exists.intro
  refine ⟨fun wq => ?_, ?_⟩
  · unfold pLa
    go_simp
    first | exact rfl | exact ⟨rfl, rfl⟩
  go_simp
 iterate 2
  refine UG.wQe rfl rfl ?_
  apply Exists.intro
  refine ⟨fun wq hq => ?_, ?_⟩
  · obtain ⟨v0, s0, s1, s2, s3, s4, s10, y0, y1, y2⟩ := HC.out wq ((Gr.drew _).trans hq)
    unfold pLa
    go_simp
    first | exact rfl | exact ⟨rfl, rfl⟩
  go_simp
 iterate 2
  refine UG.wPe rfl rfl ?_
  apply Exists.intro
  refine ⟨fun wq => ?_, ?_⟩
  · unfold pLa
    go_simp
    first | exact rfl | exact ⟨rfl, rfl⟩
  go_simp
 iterate 2
  refine UG.wQe rfl rfl ?_
  apply Exists.intro
  refine ⟨fun wq hq => ?_, ?_⟩
  · obtain ⟨v0, s0, s1, s2, s3, s4, s10, y0, y1, y2⟩ := HC.out wq ((Gr.drew _).trans hq)
    unfold pLa
    go_simp
    first | exact rfl | exact ⟨rfl, rfl⟩
  go_simp
 iterate 2
  refine UG.wPe rfl rfl ?_
  apply Exists.intro
  refine ⟨fun wq => ?_, ?_⟩
  · unfold pLa
    go_simp
    first | exact rfl | exact ⟨rfl, rfl⟩
  go_simp
 iterate 3
  refine UG.wQe rfl rfl ?_
  apply Exists.intro
  refine ⟨fun wq hq => ?_, ?_⟩
  · obtain ⟨v0, s0, s1, s2, s3, s4, s10, y0, y1, y2⟩ := HC.out wq ((Gr.drew _).trans hq)
    unfold pLa
    go_simp
    first | exact rfl | exact ⟨rfl, rfl⟩
  go_simp
 iterate 2
  refine UG.wPe rfl rfl ?_
  apply Exists.intro
  refine ⟨fun wq => ?_, ?_⟩
  · unfold pLa
    go_simp
    first | exact rfl | exact ⟨rfl, rfl⟩
  go_simp
 refine UG.wQe rfl rfl ?_
 apply Exists.intro
 refine ⟨fun wq hq => ?_, ?_⟩
 · obtain ⟨v0, s0, s1, s2, s3, s4, s10, y0, y1, y2⟩ := HC.out wq ((Gr.drew _).trans hq)
   unfold pLa
   go_simp
   first | exact rfl | exact ⟨rfl, rfl⟩
 go_simp
 refine UG.wpG_t rfl rfl ?_
 intro w7 g7 K hK
 go_simp
 go_at_call 143
 refine (HCL.out w7 ((Gr.drew _).trans g7)).mono ?_
 rintro e wn ⟨rfl, h8, k8⟩
 refine hK _ _ k8 ?_; have K8 := Lib.hid ((KQ.gr (kb := L.kb) ((Gr.drew _).trans g7)).trans k8); have H8 := Lib.hid h8; clear g7 h8 k8 hK; rw [hz]
 go_simp
 refine UG.wPe rfl rfl ?_
 apply Exists.intro
 refine ⟨fun wq => ?_, ?_⟩
 · unfold pLa
   go_simp
   first | exact rfl | exact ⟨rfl, rfl⟩
 go_simp
 refine UG.wNi ?_
 intro w9 g9
 have K9 := Lib.hid (K8.out.trans (KQ.gr g9)); have H9 := Lib.hid (H8.out.mono g9)
 clear g9 hz
 go_wp2_with fail
 go_ret
 exact ⟨rfl, H9.out, K9.out⟩
set_option maxRecDepth 100000 in
set_option maxHeartbeats 4000000 in
theorem begin2_any (h : MSt w0 L m w) (f : Fit m a d l) (hlv : m.Live) (ho : m.Ok n) (hl : y.life < 18446744073709551616) (hbs : y.base ≤ 1073741824) (hg : y.gen < 18446744073709551616) (hn : n + 3 ≤ 900) (hb : BgI L a d l x y vl next vp due dead ps pv py w) :
 Calls Tryz.prog 144 #[.pointer (some ⟨pv, 0, none⟩), .pointer (some ⟨py, 0, none⟩)] w fun e w' => e = .returned (.int .i64 0) ∧ MSt w0 L (m.superWrite a d l y).1 w' ∧ KQ L.kb w w' := by
 have HCL := Lib.hid (fun wr (g : Gr w wr) => superWrite_any (h.mono g) f ho hn y hl hbs hg)
 unfold sprC at HCL
 have HC := Lib.hid (fun wr (g : Gr w wr) => (hb.gr g).cells)
 obtain ⟨r, hr⟩ : ∃ r, r = m.superWrite a d l y := ⟨_, rfl⟩
 have hz : r.2 = 0 := by rw [hr]; exact (hlv.superWrite _ _ _ _).1
 rw [← hr] at HCL ⊢
 clear h f hlv ho hb hr
 go_enter Tryz.func144, Tryz.ntmps144
 go_upto_region 1 with fail
 refine UG.wrU (KQ L.kb) 129 (fun w w' h => h.1) (fun w w' b cs h hb => h.sec hb) (by kernel_rfl) [0, 1, 3, 7, 0, 16, 48, 112, 0, 256, 768, 1792, 0, 8191, 16383] [.q 0, .p 1, .p 2, .q 3, .q 4, .p 5, .p 6, .q 7, .q 8, .p 9, .p 10, .q 11, .q 12, .t 13, .p 14] (by kernel_rfl) (trivial) ?_
 refine UG.wQe rfl rfl ?_
 apply Exists.intro
 refine ⟨fun wq hq => ?_, ?_⟩
 · obtain ⟨v0, s0, s1, s2, s3, s4, s10, y0, y1, y2⟩ := HC.out wq ((Gr.drew _).trans hq)
   unfold pLa
   go_simp
   first | exact rfl | exact ⟨rfl, rfl⟩
 go_simp
 iterate 2
  refine UG.wPe rfl rfl ?_
  apply Exists.intro
  refine ⟨fun wq => ?_, ?_⟩
  · unfold pLa
    go_simp
    first | exact rfl | exact ⟨rfl, rfl⟩
  go_simp
 iterate 2
  refine UG.wQe rfl rfl ?_
  apply Exists.intro
  refine ⟨fun wq hq => ?_, ?_⟩
  · obtain ⟨v0, s0, s1, s2, s3, s4, s10, y0, y1, y2⟩ := HC.out wq ((Gr.drew _).trans hq)
    unfold pLa
    go_simp
    first | exact rfl | exact ⟨rfl, rfl⟩
  go_simp
 iterate 2
  refine UG.wPe rfl rfl ?_
  apply Exists.intro
  refine ⟨fun wq => ?_, ?_⟩
  · unfold pLa
    go_simp
    first | exact rfl | exact ⟨rfl, rfl⟩
  go_simp
 iterate 2
  refine UG.wQe rfl rfl ?_
  apply Exists.intro
  refine ⟨fun wq hq => ?_, ?_⟩
  · obtain ⟨v0, s0, s1, s2, s3, s4, s10, y0, y1, y2⟩ := HC.out wq ((Gr.drew _).trans hq)
    unfold pLa
    go_simp
    first | exact rfl | exact ⟨rfl, rfl⟩
  go_simp
 iterate 2
  refine UG.wPe rfl rfl ?_
  apply Exists.intro
  refine ⟨fun wq => ?_, ?_⟩
  · unfold pLa
    go_simp
    first | exact rfl | exact ⟨rfl, rfl⟩
  go_simp
 iterate 2
  refine UG.wQe rfl rfl ?_
  apply Exists.intro
  refine ⟨fun wq hq => ?_, ?_⟩
  · obtain ⟨v0, s0, s1, s2, s3, s4, s10, y0, y1, y2⟩ := HC.out wq ((Gr.drew _).trans hq)
    unfold pLa
    go_simp
    first | exact rfl | exact ⟨rfl, rfl⟩
  go_simp
 refine UG.wpG_t rfl rfl ?_
 intro w7 g7 K hK
 go_simp
 go_at_call 145
 refine (HCL.out w7 ((Gr.drew _).trans g7)).mono ?_
 rintro e wn ⟨rfl, h8, k8⟩
 refine hK _ _ k8 ?_; have K8 := Lib.hid ((KQ.gr (kb := L.kb) ((Gr.drew _).trans g7)).trans k8); have H8 := Lib.hid h8; clear g7 h8 k8 hK; rw [hz]
 go_simp
 refine UG.wPe rfl rfl ?_
 apply Exists.intro
 refine ⟨fun wq => ?_, ?_⟩
 · unfold pLa
   go_simp
   first | exact rfl | exact ⟨rfl, rfl⟩
 go_simp
 refine UG.wNi ?_
 intro w9 g9
 have K9 := Lib.hid (K8.out.trans (KQ.gr g9)); have H9 := Lib.hid (H8.out.mono g9)
 clear g9 hz
 go_wp2_with fail
 go_ret
 exact ⟨rfl, H9.out, K9.out⟩
end
end
section
open Go.RowKit
theorem tyA_store : ¬ tyA 111 := by unfold tyA tyM; decide
section
variable {w0 w w' : World} {L : Pl} {m : Mc} {n : Nat} {a d l : Int} {x y : Spr} {vl vp : Value} {next : Nat} {due dead : Bool} {ps pv py : Nat}
set_option maxRecDepth 100000 in
set_option maxHeartbeats 4000000 in
theorem begin3_any (h : MSt w0 L m w) (f : Fit m a d l) (hbs : y.base ≤ 1073741824) (hge : w0.heap.size ≤ ps) (hb : BgI L a d l x y vl next vp due dead ps pv py w) :
 Calls Tryz.prog 146 #[.pointer (some ⟨py, 0, none⟩), .pointer (some ⟨pv, 0, none⟩)] w fun e w' => e = .returned (.int .i64 0) ∧ ∃ pl, MSt w0 L m w' ∧ Blk w' ps 111 (storeC L a d l y (.pointer (some ⟨pl, 0, none⟩)) next vp false dead) ∧ Blk w' pl 193 (logC L a d l y.life y.base 0) ∧ w.heap.size ≤ pl ∧ Tch (fun b => b = ps) w w' := by
 have HC := Lib.hid (fun wr (g : Gr w wr) => (hb.gr g).cells)
 have HB := Lib.hid hb; have HH := Lib.hid h
 have HN := Lib.hid (fun wr (s : MSt w0 L m wr) => walNew_any s f y.life y.base hbs)
 clear h f hb
 go_enter Tryz.func146, Tryz.ntmps146
 go_upto_region 1 with fail
 have ne1 : ¬ (pv = ps) := fun e => by have := HB.out.v; rw [e] at this; exact absurd (bTy this HB.out.s) (by decide)
 have ne2 : ¬ (py = ps) := fun e => by have := HB.out.y; rw [e] at this; exact absurd (bTy this HB.out.s) (by decide)
 have HT := Lib.hid (fun wr (t : Tch (fun b => b = ps) w.drew wr) => And.intro (((HB.out.v.mono (Gr.drew w)).tch t ne1).cell 0) (spr_cells ((HB.out.y.mono (Gr.drew w)).tch t ne2)))
 have hlt : ps < w.heap.size := HB.out.s.lt
 clear ne1 ne2
 refine VG.wrV (Tch (fun b => b = ps)) (KQ L.kb) 129 ?hlb (fun w w' h => h.1) (fun w w' b cs h hb => h.sec hb) (by kernel_rfl) [0, 0, 0, 5, 13, 29, 63, 127, 255] [.q 0, .q 1, .q 2, .p 3, .p 4, .c 5, .p 6, .p 7, .c 8] (by kernel_rfl) (trivial) ?_
 case hlb => exact fun v w' b cs T hb k => k.tch T (by omega)
 iterate 3
  refine VG.wQe rfl rfl ?_
  apply Exists.intro
  refine ⟨fun wq hq => ?_, ?_⟩
  · obtain ⟨v0, y0, y1, y2⟩ := HT.out wq hq
    unfold pLa
    go_simp
    first | exact rfl | exact ⟨rfl, rfl⟩
  go_simp
 iterate 2
  refine VG.wPe rfl rfl ?_
  apply Exists.intro
  refine ⟨fun wq => ?_, ?_⟩
  · unfold pLa
    go_simp
    first | exact rfl | exact ⟨rfl, rfl⟩
  go_simp
 refine VG.wpG_c rfl rfl ?_
 intro w3 g3 K hK
 have B3 := Lib.hid (HB.out.gr ((Gr.drew w).trans g3))
 have TH : w3.there ps 5 3 := fun j hj => by
  rcases (show j = 0 ∨ j = 1 ∨ j = 2 by omega) with e | e | e <;> subst e
  · exact ⟨by rw [show w3.cell? ⟨ps, 5 + 0, none⟩ = _ from B3.out.s.cell 5]; rfl, Blk.free B3.out.s 5⟩
  · exact ⟨by rw [show w3.cell? ⟨ps, 5 + 1, none⟩ = _ from B3.out.s.cell 6]; rfl, Blk.free B3.out.s 6⟩
  · exact ⟨by rw [show w3.cell? ⟨ps, 5 + 2, none⟩ = _ from B3.out.s.cell 7]; rfl, Blk.free B3.out.s 7⟩
 refine wp_store_mid 108 (.tmp 7) (.tmp 5) rfl ps 5 (sprC y) rfl rfl TH sprSize (sprOne y) ?_
 refine hK _ _ (Tch.puts (S := fun b => b = ps) rfl _ _ _) ?_
 clear hK TH
 go_simp
 obtain ⟨w4, hw4⟩ : ∃ w4, w4 = w3.setCells ps 5 (sprC y).toList := ⟨_, rfl⟩
 have S4 : Hid (Blk w4 ps 111 (storeC L a d l y vl next vp due dead)) := by show Blk _ _ _ _; rw [hw4]; exact ((B3.out.s.set 5 (.int .u64 (y.life : Int))).set 6 (.int .i64 (y.base : Int))).set 7 (.int .u64 (y.gen : Int))
 have T4 : Hid (Tch (fun b => b = ps) w3 w4) := by show Tch _ _ _; rw [hw4]; exact Tch.puts (S := fun b => b = ps) rfl _ _ _
 have G3 : Hid (Gr w w3) := (Gr.drew w).trans g3
 rw [← hw4]
 clear hw4 g3
 iterate 2
  refine VG.wPe rfl rfl ?_
  apply Exists.intro
  refine ⟨fun wq => ?_, ?_⟩
  · unfold pLa
    go_simp
    first | exact rfl | exact ⟨rfl, rfl⟩
  go_simp
 refine VG.wpG_c rfl rfl ?_
 intro w5 g5 K hK
 have S5 := Lib.hid (S4.out.mono g5)
 have G5 := Lib.hid g5
 have f11 := Blk.free S5.out 11
 have x11 := S5.out.cell 11
 clear g5
 go_simp
 refine hK _ _ (Tch.set ⟨ps, 11, none⟩ _ rfl) ?_
 clear hK f11 x11
 go_simp
 refine VG.wNi ?_
 intro w7 g7
 obtain ⟨w6, hw6⟩ : ∃ w6, w6 = w5.setCell ⟨ps, 11, none⟩ (.bool false) := ⟨_, rfl⟩
 have S6 : Blk w6 ps 111 (storeC L a d l y vl next vp false dead) := by rw [hw6]; exact S5.out.set 11 _
 have T6 : Tch (fun b => b = ps) w5 w6 := by rw [hw6]; exact Tch.set ⟨ps, 11, none⟩ _ rfl
 rw [← hw6] at g7
 clear hw6
 have S7 := Lib.hid (S6.mono g7)
 have T7 : Hid (Tch (fun b => b = ps) w w7) := ((((Tch.gr G3.out).trans T4.out).trans (Tch.gr G5.out)).trans T6).trans (Tch.gr g7)
 have ne1 : ¬ (pv = ps) := fun e => by have := HB.out.v; rw [e] at this; exact absurd (bTy this HB.out.s) (by decide)
 have ne2 : ¬ (py = ps) := fun e => by have := HB.out.y; rw [e] at this; exact absurd (bTy this HB.out.s) (by decide)
 have B7 : Hid (BgI L a d l y y vl next vp false dead ps pv py w7) := ⟨S7.out, HB.out.v.tch T7.out ne1, HB.out.y.tch T7.out ne2⟩
 have H7 : Hid (MSt w0 L m w7) := HH.out.off T7.out (fun b e => e ▸ hge) (fun b e => e ▸ ⟨_, _, HB.out.s, tyA_store⟩)
 have HC2 := Lib.hid (fun wr (g : Gr w7 wr) => (B7.out.gr g).cells)
 clear S6 T6 g7 ne1 ne2
 go_upto_region 2 with fail
 refine wrG (by kernel_rfl) [0, 0, 2, 6, 14, 0, 32, 96, 224, 0, 512, 1536, 3584, 0, 8192, 0, 32768, 131070, 262142, 524286, 524286, 1048575, 3145727, 7340031, 16777215] [.p 13, .p 15, .q 0, .q 1, .p 2, .p 3, .q 4, .q 5, .p 6, .p 7, .q 8, .q 9, .p 10, .p 11, .q 12, .q 14, .q 16, .c 17, .p 18, .p 19, .p 20, .p 21, .p 22, .s 23, .p 24] (by kernel_rfl) (trivial) ?_
 iterate 2
  refine wPe rfl rfl ?_
  apply Exists.intro
  refine ⟨fun wq => ?_, ?_⟩
  · unfold pLa
    go_simp
    first | exact rfl | exact ⟨rfl, rfl⟩
  go_simp
 iterate 2
  refine wQe rfl rfl ?_
  apply Exists.intro
  refine ⟨fun wq hq => ?_, ?_⟩
  · obtain ⟨v0, s0, s1, s2, s3, s4, s10, y0, y1, y2⟩ := HC2.out wq ((Gr.drew _).trans hq)
    unfold pLa
    go_simp
    first | exact rfl | exact ⟨rfl, rfl⟩
  go_simp
 iterate 2
  refine wPe rfl rfl ?_
  apply Exists.intro
  refine ⟨fun wq => ?_, ?_⟩
  · unfold pLa
    go_simp
    first | exact rfl | exact ⟨rfl, rfl⟩
  go_simp
 iterate 2
  refine wQe rfl rfl ?_
  apply Exists.intro
  refine ⟨fun wq hq => ?_, ?_⟩
  · obtain ⟨v0, s0, s1, s2, s3, s4, s10, y0, y1, y2⟩ := HC2.out wq ((Gr.drew _).trans hq)
    unfold pLa
    go_simp
    first | exact rfl | exact ⟨rfl, rfl⟩
  go_simp
 iterate 2
  refine wPe rfl rfl ?_
  apply Exists.intro
  refine ⟨fun wq => ?_, ?_⟩
  · unfold pLa
    go_simp
    first | exact rfl | exact ⟨rfl, rfl⟩
  go_simp
 iterate 2
  refine wQe rfl rfl ?_
  apply Exists.intro
  refine ⟨fun wq hq => ?_, ?_⟩
  · obtain ⟨v0, s0, s1, s2, s3, s4, s10, y0, y1, y2⟩ := HC2.out wq ((Gr.drew _).trans hq)
    unfold pLa
    go_simp
    first | exact rfl | exact ⟨rfl, rfl⟩
  go_simp
 iterate 2
  refine wPe rfl rfl ?_
  apply Exists.intro
  refine ⟨fun wq => ?_, ?_⟩
  · unfold pLa
    go_simp
    first | exact rfl | exact ⟨rfl, rfl⟩
  go_simp
 iterate 3
  refine wQe rfl rfl ?_
  apply Exists.intro
  refine ⟨fun wq hq => ?_, ?_⟩
  · obtain ⟨v0, s0, s1, s2, s3, s4, s10, y0, y1, y2⟩ := HC2.out wq ((Gr.drew _).trans hq)
    unfold pLa
    go_simp
    first | exact rfl | exact ⟨rfl, rfl⟩
  go_simp
 refine wpG_c rfl rfl ?_
 intro w8 g8 K hK
 go_simp
 go_at_call 147
 refine (HN.out w8 (H7.out.mono ((Gr.drew _).trans g8))).mono ?_
 rintro e wn ⟨pl, rfl, g9, hpl, hlg⟩
 refine hK _ _ g9 ?_; have G9 := Lib.hid (((Gr.drew w7).trans g8).trans g9); have LG := Lib.hid hlg; have hpl2 : w7.heap.size ≤ pl := Nat.le_trans ((Gr.drew w7).trans g8).size hpl; clear g8 g9 hlg hK
 go_simp
 iterate 5
  refine wPe rfl rfl ?_
  apply Exists.intro
  refine ⟨fun wq => ?_, ?_⟩
  · unfold pLa
    go_simp
    first | exact rfl | exact ⟨rfl, rfl⟩
  go_simp
 refine wpG_s rfl rfl ?_
 intro wa ga K hK
 have Ga := Lib.hid (G9.out.trans ga)
 have Sa := Lib.hid (S7.out.mono Ga.out)
 have La := Lib.hid (LG.out.mono ga)
 have f8 := Blk.free Sa.out 8
 have x8 := Sa.out.cell 8
 clear ga
 go_simp
 refine hK _ _ ?_
 clear hK f8 x8
 go_simp
 refine wPe rfl rfl ?_
 apply Exists.intro
 refine ⟨fun wq => ?_, ?_⟩
 · unfold pLa
   go_simp
   first | exact rfl | exact ⟨rfl, rfl⟩
 go_simp
 refine wNi ?_
 intro wc gc
 obtain ⟨wb, hwb⟩ : ∃ wb, wb = wa.setCell ⟨ps, 8, none⟩ (.pointer (some ⟨pl, 0, none⟩)) := ⟨_, rfl⟩
 have Sb : Blk wb ps 111 (storeC L a d l y (.pointer (some ⟨pl, 0, none⟩)) next vp false dead) := by rw [hwb]; exact Sa.out.set 8 _
 have Tb : Tch (fun b => b = ps) wa wb := by rw [hwb]; exact Tch.set ⟨ps, 8, none⟩ _ rfl
 rw [← hwb] at gc
 clear hwb
 have hne : ¬ (pl = ps) := fun e => by have := S7.out.lt; omega
 have Lc := Lib.hid ((La.out.tch Tb hne).mono gc)
 have Sc := Lib.hid (Sb.mono gc)
 have T7c : Hid (Tch (fun b => b = ps) w7 wc) := ((Tch.gr Ga.out).trans Tb).trans (Tch.gr gc)
 have Hc : Hid (MSt w0 L m wc) := H7.out.off T7c.out (fun b e => e ▸ hge) (fun b e => e ▸ ⟨_, _, S7.out, tyA_store⟩)
 clear Sb Tb gc hne
 go_wp2_with fail
 go_ret
 exact ⟨rfl, pl, Hc.out, Sc.out, Lc.out, Nat.le_trans T7.out.size hpl2, T7.out.trans T7c.out⟩
end
end
section
open Go.RowKit
def Mc.begin (m : Mc) (a d l : Int) (y : Spr) (P : List (List UInt8)) : Mc := ((m.snapWrite a d l y.life P).1.superWrite a d l y).1
theorem snapPuts_kept {a d l : Int} {life : Nat} : ∀ (P : List (List UInt8)) (m : Mc) (k : Nat), (m.snapPuts a d l life k P).1.d.kept.length = m.d.kept.length
 | [], m, k => rfl
 | b :: bs, m, k => by
  have e : m.snapPuts a d l life k (b :: bs) = if (m.snapPut a d l life k b).2 = 0 then (m.snapPut a d l life k b).1.snapPuts a d l life (k + 1) bs else m.snapPut a d l life k b := rfl
  rw [e]
  split
  · exact (snapPuts_kept bs _ _).trans (snapPut_kept _ _ _ _ _ _ _)
  · exact snapPut_kept _ _ _ _ _ _ _
theorem snapWrite_kept (m : Mc) (a d l : Int) (life : Nat) (P : List (List UInt8)) : (m.snapWrite a d l life P).1.d.kept.length = m.d.kept.length := thenM_kept (snapPuts_kept P m 0) (fun m h => (flush_kept m).trans h)
theorem superWrite_kept (m : Mc) (a d l : Int) (x : Spr) : (m.superWrite a d l x).1.d.kept.length = m.d.kept.length := thenM_kept (write_kept _ _ _) (fun m h => (flush_kept m).trans h)
theorem Mc.Live.begin {m : Mc} (h : m.Live) (a d l : Int) (y : Spr) (P : List (List UInt8)) : (m.begin a d l y P).Live := ((h.snapWrite a d l y.life P).2.superWrite a d l y).2
theorem Mc.Ok.begin {m : Mc} {n : Nat} (h : m.Ok n) (a d l : Int) (y : Spr) (P : List (List UInt8)) : (m.begin a d l y P).Ok (n + 2 * P.length + 4) := ((h.snapWrite a d l y.life P).superWrite a d l y).le (by omega)
section
variable {w0 w w' : World} {L : Pl} {m : Mc} {n : Nat} {a d l : Int} {x y : Spr} {vl : Value} {next : Nat} {due dead : Bool} {ps : Nat}
theorem step_keep {kb g : Nat} {cs : List Value} (k : KQ kb w w') (h : Blk w g 164 cs) : Blk w' g 164 cs := k.blk h (by unfold tyM; decide) (fun e => absurd e (by decide))
set_option maxRecDepth 100000 in
set_option maxHeartbeats 400000 in
theorem storeBegin_any (A : Option Addr) (N c : Nat) (R : List BRow) (h : MSt w0 L m w) (f : Fit m a d l) (hlv : m.Live) (ho : m.Ok n) (hl : y.life < 18446744073709551616) (hbs : y.base ≤ 1073741824) (hg : y.gen < 18446744073709551616) (hge : w0.heap.size ≤ ps) (hP : Pgs L.kb w A N c R) (hlen : (N : Int) = pagesI a d l) (hsm : ∀ r ∈ R, r.n ≤ 479) (hn : n + 2 * N + 4 ≤ 900) (hs : Blk w ps 111 (storeC L a d l x vl next (.slice A N c) due dead)) :
 Calls Tryz.prog 74 #[.pointer (some ⟨ps, 0, none⟩), .agg (sprC y)] w fun e w' => e = .returned (.int .i64 0) ∧ ∃ pl, MSt w0 L (m.begin a d l y (R.map BRow.l)) w' ∧ Blk w' ps 111 (storeC L a d l y (.pointer (some ⟨pl, 0, none⟩)) next (.slice A N c) false dead) ∧ Blk w' pl 193 (logC L a d l y.life y.base 0) ∧ w.heap.size ≤ pl ∧ KX (fun b => b = ps) L.kb w w' := by
 have hRN : R.length = N := hP.len
 obtain ⟨F, hF⟩ : ∃ F : List Value, F = [.func (.func 142) #[] #[.pointer (some ⟨w.heap.size, 0, none⟩), .pointer (some ⟨w.heap.size + 1, 0, none⟩)], .func (.func 144) #[] #[.pointer (some ⟨w.heap.size, 0, none⟩), .pointer (some ⟨w.heap.size + 1, 0, none⟩)], .func (.func 146) #[] #[.pointer (some ⟨w.heap.size + 1, 0, none⟩), .pointer (some ⟨w.heap.size, 0, none⟩)]] := ⟨_, rfl⟩
 obtain ⟨w1, hw1⟩ : ∃ w1, w1 = (w.alloc (.cells #[.pointer (some ⟨ps, 0, none⟩)] 63)).alloc (.cells (sprC y) 108) := ⟨_, rfl⟩
 have g1 : Gr w w1 := by rw [hw1]; exact (Gr.alloc _ _).trans (Gr.alloc _ _)
 have b1 : Blk w1 w.heap.size 63 [.pointer (some ⟨ps, 0, none⟩)] := by rw [hw1]; exact (Blk.new w _ _).alloc _
 have y1 : Blk w1 (w.heap.size + 1) 108 (sprC y).toList := by rw [hw1]; exact heap_alloc2_new w _ _
 have e1 : w1.heap.size = w.heap.size + 1 + 1 := by rw [hw1, World.size_alloc, World.size_alloc]
 obtain ⟨w2, hw2⟩ : ∃ w2, w2 = w1.alloc (.cells F.toArray 164) := ⟨_, rfl⟩
 have g2 : Gr w w2 := by rw [hw2]; exact g1.trans (Gr.alloc _ _)
 have s2 : Blk w2 w1.heap.size 164 F := by rw [hw2]; exact Blk.new w1 _ F.toArray
 have B2 : BgI L a d l x y vl next (.slice A N c) due dead ps w.heap.size (w.heap.size + 1) w2 := ⟨g2.blk hs, by rw [hw2]; exact b1.alloc _, by rw [hw2]; exact y1.alloc _⟩
 obtain ⟨m1, hm1⟩ : ∃ m1, m1 = (m.snapWrite a d l y.life (R.map BRow.l)).1 := ⟨_, rfl⟩
 have ho1 : m1.Ok (n + 2 * N + 1) := by rw [hm1]; have := ho.snapWrite a d l y.life (R.map BRow.l); rwa [List.length_map, hRN] at this
 have hlv1 : m1.Live := by rw [hm1]; exact (hlv.snapWrite _ _ _ _ _).2
 have f1 : Fit m1 a d l := ⟨f.g, by rw [hm1, snapWrite_kept]; exact f.s⟩
 obtain ⟨m2, hm2⟩ : ∃ m2, m2 = (m1.superWrite a d l y).1 := ⟨_, rfl⟩
 have f2 : Fit m2 a d l := ⟨f.g, by rw [hm2, superWrite_kept]; exact f1.s⟩
 have hmm : m.begin a d l y (R.map BRow.l) = m2 := by rw [hm2, hm1]; rfl
 have ST : Calls Tryz.prog 60 #[.slice (some ⟨w1.heap.size, 0, none⟩) 3 3] w2 (RetS (fun w' => ∃ pl, MSt w0 L m2 w' ∧ Blk w' ps 111 (storeC L a d l y (.pointer (some ⟨pl, 0, none⟩)) next (.slice A N c) false dead) ∧ Blk w' pl 193 (logC L a d l y.life y.base 0) ∧ w.heap.size ≤ pl ∧ KX (fun b => b = ps) L.kb w w') (fun _ _ => False)) := by
  rw [hF] at s2
  refine storeSteps3 _ _ _ _ _ _ _ _ _ (enters_of Tryz.func142 (by kernel_rfl) rfl) (enters_of Tryz.func144 (by kernel_rfl) rfl) (enters_of Tryz.func146 (by kernel_rfl) rfl) w1.heap.size w2 (fun w' => MSt w0 L m1 w' ∧ KQ L.kb w2 w') (fun w' => MSt w0 L m2 w' ∧ KQ L.kb w2 w') _ _ s2 ?_ ?_ ?_
  · refine (begin1_any A N c R (h.mono g2) f hlv ho hl (hP.mono g2) hlen hsm (by omega) B2).mono ?_
    rintro e w3 ⟨rfl, h3, k3⟩
    exact ⟨0, rfl, fun _ => ⟨by rw [hm1]; exact h3, k3⟩, fun q => absurd rfl q⟩
  · rintro w3 ⟨h3, k3⟩
    refine ⟨step_keep k3 s2, (begin2_any h3 f1 hlv1 ho1 hl hbs hg (by omega) (B2.kq k3)).mono ?_⟩
    rintro e w4 ⟨rfl, h4, k4⟩
    exact ⟨0, rfl, fun _ => ⟨by rw [hm2]; exact h4, k3.trans k4⟩, fun q => absurd rfl q⟩
  · rintro w4 ⟨h4, k4⟩
    refine ⟨step_keep k4 s2, (begin3_any h4 f2 hbs hge (B2.kq k4)).mono ?_⟩
    rintro e w5 ⟨rfl, pl, h5, s5, l5, hpl, T5⟩
    exact ⟨0, rfl, fun _ => ⟨pl, h5, s5, l5, by have := k4.1; have := g2.size; omega, (KX.gr g2).trans ((KX.kq k4).trans (KX.tch T5))⟩, fun q => absurd rfl q⟩
 rw [e1, hw2, hw1, hF] at ST
 have HST := Lib.hid ST; have HMM := Lib.hid hmm
 clear h f hlv ho hP hsm hs g1 b1 y1 g2 s2 B2 hm1 ho1 hlv1 f1 hm2 f2 hmm ST hw1 hw2 hF hRN hlen e1
 unfold sprC at HST ⊢
 go_enter Tryz.func74, Tryz.ntmps74
 go_wp2_with fail
 refine HST.out.mono ?_
 rintro e w5 ⟨q, rfl, hi, he⟩
 have hq : q = 0 := by
  rcases (show q = 0 ∨ q ≠ 0 by omega) with z | z
  · exact z
  · exact (he z).elim
 have HI := Lib.hid (hi hq)
 subst hq
 clear hi he
 go_wp2_with fail
 go_ret
 obtain ⟨pl, i1, i2, i3, i4, i5⟩ := HI.out
 exact ⟨rfl, pl, by rw [HMM.out]; exact i1, i2, i3, i4, i5⟩
end
end
section
open Go.RowKit
section
variable {w0 w w' : World} {L : Pl} {m : Mc} {n : Nat} {a d l : Int} {x y : Spr} {vl : Value} {next : Nat} {due dead : Bool} {ps pv pd pg : Nat}
theorem Pgs.empty {kb b N : Nat} (hN : N ≤ 264) (hb : Blk w b 36 (List.replicate N (.slice none 0 0))) : Pgs kb w (some ⟨b, 0, none⟩) N N (List.replicate N ⟨none, 0, 0, []⟩) := by
 refine ⟨⟨by simp, Nat.le_refl _, by simp only [maxLen]; omega, fun h0 => ⟨b, 0, rfl, fun j u hu => ?_⟩⟩, fun b' o' h0 e => ?_, fun r hr => ?_⟩
 · rw [List.map_replicate] at hu
   rw [Nat.zero_add]
   exact (hb.cell j).trans hu
 · injection e with e
   injection e with e1 _
   subst e1
   exact ⟨_, _, _, hb, by unfold tyM; decide, fun e => absurd e (by decide)⟩
 · rw [List.eq_of_mem_replicate hr]
   exact QB.nil _ _
set_option maxRecDepth 100000 in
set_option maxHeartbeats 1000000 in
theorem format1_any (h : MSt w0 L m w) (f : Fit m a d l) (hlv : m.Live) (ho : m.Ok n) (hn : n + 3 ≤ 900) (hd : Blk w pd 26 [.pointer (some ⟨L.dp, 0, none⟩)]) (hg : Blk w pg 23 [.int .i64 a, .int .i64 d, .int .i64 l]) :
 Calls Tryz.prog 85 #[.pointer (some ⟨pd, 0, none⟩), .pointer (some ⟨pg, 0, none⟩)] w fun e w' => e = .returned (.int .i64 0) ∧ MSt w0 L m.clear.1 w' ∧ KQ L.kb w w' := by
 have HCL := Lib.hid (superClear_any h f ho hn)
 obtain ⟨r, hr⟩ : ∃ r, r = m.clear := ⟨_, rfl⟩
 have hz : r.2 = 0 := by rw [hr]; exact hlv.clear.1
 rw [← hr] at HCL ⊢
 have d0 := hd.cell 0
 have k0 := hg.cell 0
 have k1 := hg.cell 1
 have k2 := hg.cell 2
 clear h f hlv ho hd hg hr
 go_enter Tryz.func85, Tryz.ntmps85
 go_wp2_with fail
 refine HCL.out.mono ?_
 rintro e w1 ⟨rfl, h1, k1'⟩
 rw [hz]
 have H1 := Lib.hid h1; have K1 := Lib.hid k1'
 clear h1 k1' hz d0 k0 k1 k2
 go_wp2_with fail
 go_ret
 exact ⟨rfl, H1.out, K1.out⟩
set_option maxRecDepth 100000 in
set_option maxHeartbeats 1000000 in
theorem format2_any (A : Option Addr) (N c : Nat) (R : List BRow) (h : MSt w0 L m w) (f : Fit m a d l) (hlv : m.Live) (ho : m.Ok n) (hge : w0.heap.size ≤ ps) (hP : Pgs L.kb w A N c R) (hlen : (N : Int) = pagesI a d l) (hsm : ∀ r ∈ R, r.n ≤ 479) (hn : n + 2 * N + 4 ≤ 900) (hs : Blk w ps 111 (storeC L a d l x vl next (.slice A N c) due dead)) (hv : Blk w pv 63 [.pointer (some ⟨ps, 0, none⟩)]) :
 Calls Tryz.prog 88 #[.pointer (some ⟨pv, 0, none⟩)] w fun e w' => e = .returned (.int .i64 0) ∧ ∃ pl, MSt w0 L (m.begin a d l ⟨1, 0, 0⟩ (R.map BRow.l)) w' ∧ Blk w' ps 111 (storeC L a d l ⟨1, 0, 0⟩ (.pointer (some ⟨pl, 0, none⟩)) next (.slice A N c) false dead) ∧ Blk w' pl 193 (logC L a d l 1 0 0) ∧ w.heap.size ≤ pl ∧ KX (fun b => b = ps) L.kb w w' := by
 have HCL := Lib.hid (storeBegin_any (y := ⟨1, 0, 0⟩) A N c R h f hlv ho (by decide) (by decide) (by decide) hge hP hlen hsm hn hs)
 have v0 := hv.cell 0
 unfold sprC at HCL
 clear h f hlv ho hP hlen hsm hs hv
 go_enter Tryz.func88, Tryz.ntmps88
 go_wp2_with fail
 refine HCL.out.mono ?_
 rintro e w1 ⟨rfl, pl, i1, i2, i3, i4, i5⟩
 have I1 := Lib.hid i1; have I2 := Lib.hid i2; have I3 := Lib.hid i3; have I5 := Lib.hid i5; have I4 := Lib.hid i4
 clear i1 i2 i3 i5 i4 v0
 go_wp2_with fail
 go_ret
 exact ⟨rfl, pl, I1.out, I2.out, I3.out, I4.out, I5.out⟩
end
end
end Go.Proofs.YtdkmlmbehlooiaaGreatDoor
