/- Own texts, one behind the other. No condition. -/
import Derived.Test.YtdkmlmbehlooiaaGreatDoorObPkBB
import Derived.Test.YtdkmlmbehlooiaaGreatDoorObPkBC
set_option linter.unusedVariables false
set_option linter.unusedSimpArgs false
namespace Go.Proofs.YtdkmlmbehlooiaaGreatDoor
section
open Go.RowKit
def walSec (kind life first sq gen n : Nat) (b : List UInt8) : Sec := ⟨kind, life, sq, gen, (be first 4 ++ be n 2) ++ b⟩
def Mc.walPut (m : Mc) (l : Int) (life base first i kind gen n : Nat) (b : List UInt8) : Mc × Int :=
 (m.enc (logN l (base + (first + i))) (walSec kind life first (first + i) gen n b)).write (logN l (base + (first + i))) (encS m.S (logN l (base + (first + i))) (walSec kind life first (first + i) gen n b))
theorem Mc.Ok.walPut {m : Mc} {n : Nat} (h : m.Ok n) (l : Int) (life base first i kind gen k : Nat) (b : List UInt8) : (m.walPut l life base first i kind gen k b).1.Ok (n + 2) := (h.enc _ _).write _ _
theorem walPut_kept (m : Mc) (l : Int) (life base first i kind gen k : Nat) (b : List UInt8) : (m.walPut l life base first i kind gen k b).1.d.kept.length = m.d.kept.length := write_kept _ _ _
section
variable {w0 w w' : World} {L : Pl} {m : Mc} {n : Nat} {a d l : Int}
theorem log_keep {kb g : Nat} {cs : List Value} (k : KQ kb w w') (h : Blk w g 193 cs) : Blk w' g 193 cs := k.blk h (by unfold tyM; decide) (fun e => absurd e (by decide))
set_option maxRecDepth 100000 in
set_option maxHeartbeats 4000000 in
theorem walPut_any (h : MSt w0 L m w) (f : Fit m a d l) (ho : m.Ok n) (hn : n + 2 ≤ 900) (pl life base first i kind gen k : Nat) (hl : life < 18446744073709551616) (hb : base ≤ 1073741824) (hf : (first : Int) ≤ l) (hi : i ≤ 100) (hk1 : 1 ≤ kind) (hk5 : kind ≤ 5) (hg : gen < 18446744073709551616) (hk : k ≤ 1000000) (r : BRow) (hr : r.n ≤ 473) (hq : QB L.kb w r.a r.n r.c r.l) (hlog : Blk w pl 193 (logC L a d l life base first)) :
 Calls Tryz.prog 240 #[.pointer (some ⟨pl, 0, none⟩), .int .i64 (i : Int), .int .i64 (kind : Int), .int .u64 (gen : Int), .int .i64 (k : Int), .slice r.a r.n r.c] w (RetF w0 w L (m.walPut l life base first i kind gen k r.l)) := by
 obtain ⟨h3, h4⟩ := f.g.l
 have hlen : r.l.length = r.n := hq.b.len
 obtain ⟨sq, hsq⟩ : ∃ sq, sq = first + i := ⟨_, rfl⟩
 obtain ⟨v, hv⟩ : ∃ v, v = logN l (base + (first + i)) := ⟨_, rfl⟩
 obtain ⟨x, hx⟩ : ∃ x, x = walSec kind life first (first + i) gen k r.l := ⟨_, rfl⟩
 have hbl : x.body.length = 6 + r.n := by rw [hx]; simp only [walSec, List.length_append, be_length, hlen]
 have hxr : x.right v = true := by
  have h5 := (logN_lt f.g (base + (first + i))).2
  unfold Sec.right
  simp only [Bool.and_eq_true, decide_eq_true_eq]
  refine ⟨⟨⟨⟨?_, ?_⟩, by omega⟩, ?_⟩, by omega⟩
  · rw [hx]; exact hk1
  · rw [hx]; exact hk5
  · rw [hx]; show first + i ≤ _; omega
 have hpl : v < m.d.kept.length := by have := (logN_lt f.g (base + (first + i))).1; have := f.s; omega
 have HP1 := Lib.hid (fun wr => put_yes first 4 wr (by omega) (by decide) (by decide))
 have HP2 := Lib.hid (fun wr => put_yes k 2 wr (by omega) (by decide) (by decide))
 have HPL := Lib.hid (fun wr => walPlace_any (L := L) (a := a) (d := d) f.g life base (first + i) (by omega) wr)
 rw [← hv, show (((first + i : Nat) : Int)) = (sq : Int) by rw [hsq]] at HPL
 have HEN := Lib.hid (fun wr (g : Gr w wr) A c (hs : Bs wr A (6 + r.n) c x.body) => (h.mono g).encode ho (by omega) v x A c hxr (by rw [hx]; exact hl) (by rw [hx]; exact hg) (by rw [hbl]; exact hs))
 have hex : ∀ A c, secV x A c = .agg #[.int .i64 (kind : Int), .int .u64 (life : Int), .int .i64 (sq : Int), .int .u64 (gen : Int), .slice A (6 + r.n) c] := fun A c => by unfold secV; rw [hbl, hx, hsq]; rfl
 simp only [hex] at HEN
 have HXB : Hid (x.body = (be first 4 ++ be k 2) ++ r.l) := by show _ = _; rw [hx]; rfl
 have wc1 : IntKind.u64.wrap (first : Int) = (first : Int) := IntWalk.u64_in _ (by omega)
 have wc2 : IntKind.u64.wrap (k : Int) = (k : Int) := IntWalk.u64_in _ (by omega)
 have wsq : IntKind.i64.wrap ((first : Int) + (i : Int)) = (sq : Int) := by rw [IntWalk.i64_in _ (by omega), hsq]; omega
 obtain ⟨R, hR⟩ : ∃ R, R = m.walPut l life base first i kind gen k r.l := ⟨_, rfl⟩
 rw [← hR]
 unfold Mc.walPut at hR
 rw [← hv, ← hx] at hR
 have HO1 := Lib.hid (ho.enc v x)
 have HPK : Hid (v < (m.enc v x).d.kept.length) := hpl
 have HR := Lib.hid hR
 have HH := Lib.hid h; have HQ := Lib.hid hq; have HLOG := Lib.hid hlog; have HLN := Lib.hid hlen
 clear h f ho hq hlog hxr hpl hR hx hv hsq hex hbl hlen
 have k7 := HLOG.out.cell 7
 go_enter Tryz.func240, Tryz.ntmps240
 go_wp2_with fail
 refine (HP1.out _).mono ?_
 rintro e w1 ⟨v1, rfl, o1⟩
 rw [be_length] at o1
 obtain ⟨A1, c1, rfl, s1⟩ := o1.slice
 have O1 := Lib.hid o1
 clear o1 s1 k7
 go_wp2_with fail
 refine (HP2.out _).mono ?_
 rintro e w2 ⟨v2, rfl, o2⟩
 rw [be_length] at o2
 obtain ⟨A2, c2, rfl, s2⟩ := o2.slice
 have O2 : Hid (Own w w2 5 1 (.slice A1 4 c1) 4 ((be first 4).map u8c)) := O1.out.mono o2.below
 have S2 := Lib.hid s2
 clear o2 s2
 go_wp2_with (at_builtin; refine wpList_catG rfl (.tmp 22) (.tmp 25) 36 rfl tBytes rfl O2.out rfl S2.out (one_bytes _) (by omega) ?_; intro v3 w3 o3 kp3; rw [← List.map_append] at o3; obtain ⟨A3, c3, rfl, s3⟩ := o3.slice; have O3 := Lib.hid o3; clear o3 kp3 s3)
 go_upto_region 2 with fail
 have LG3 := Lib.hid (HLOG.out.mono O3.out.below)
 refine wp_region_quiet (C := fun w' => Below (w3).heap.size (w3) w') (by kernel_rfl) (by kernel_rfl) (Below.refl _ _).drew ?_
 simp only
 repeat (first
  | go_big_quiet_skip
  | (go_big_quiet_want
     apply Exists.intro
     refine ⟨fun wq hq => ?_, ?_⟩
     · (have k0 := (LG3.out.mono hq).cell 0; have k1 := (LG3.out.mono hq).cell 1; have k2 := (LG3.out.mono hq).cell 2; have k3 := (LG3.out.mono hq).cell 3; have k4 := (LG3.out.mono hq).cell 4; have k5 := (LG3.out.mono hq).cell 5; have k6 := (LG3.out.mono hq).cell 6; have k7 := (LG3.out.mono hq).cell 7
        go_simp
        first
         | done
         | exact rfl
         | (with_reducible exact ⟨rfl, rfl⟩)
         | (go_at_call 200; exact (HPL.out wq).mono fun e w2 ⟨he, hb⟩ => ⟨he, bBo hq hb⟩))
     go_simp
     go_big_quiet_on))
 refine wpQuiet_nil ?_
 intro wq hq
 have O4 := Lib.hid (O3.out.mono hq)
 have LG4 := Lib.hid (LG3.out.mono hq)
 clear hq
 go_upto_region 3 with fail
 obtain ⟨pp, oo, rfl⟩ : ∃ pp oo, A3 = some ⟨pp, oo, none⟩ := by
  obtain ⟨_, _, hv3, s3⟩ := O4.out.slice
  injection hv3 with e1 _ e2
  subst e1 e2
  obtain ⟨b, o, e, _⟩ := Sl.addr s3 (by decide)
  exact ⟨b, o, e⟩
 have HPP : Hid (w.heap.size ≤ pp) := O4.out.ge rfl
 have TG : Hid (∀ wa wb, Gr w wa → Tch (fun b => b = pp) wa wb → Gr w wb) := fun wa wb ga t => Tch.below ga t ga.size (fun b e => e ▸ HPP.out)
 have LQ : Hid (∀ wb, Tch (fun b => b = pp) wq.drew wb → Blk wb pl 193 (logC L a d l life base first)) := fun wb t => (TG.out _ _ (Gr.trans (show Gr w wq from O4.out.below) (Gr.drew _)) t).blk HLOG.out
 refine VG.wrV (Tch (fun b => b = pp)) (KQ L.kb) 129 ?hlb (fun w w' h => h.1) (fun w w' b cs h hb => h.sec hb) (by kernel_rfl) [0, 1, 3, 7, 15, 0, 0, 0, 128, 384, 896, 1920, 0, 4096, 12288, 28672, 0, 126976, 0, 0, 0, 1572864, 4194240, 8388607, 16777215, 33554431, 33554431, 67108863, 268435455] [.p 0, .p 1, .p 2, .p 3, .p 5, .p 6, .p 7, .p 8, .p 9, .p 10, .p 12, .p 13, .p 14, .p 16, .p 18, .p 19, .p 20, .q 4, .q 11, .q 15, .p 17, .c 21, .p 22, .t 23, .p 24, .p 25, .p 26, .p 27, .p 28] (by kernel_rfl) (trivial) ?_
 case hlb => exact fun v w' b cs T hb k => k.tch T (by have := Blk.lt k; have h1 : pp < wq.heap.size := (O4.out.blk_at (b := pp) rfl).choose_spec.lt; omega)
 iterate 17
  refine VG.wPe rfl rfl ?_
  apply Exists.intro
  refine ⟨fun wq => ?_, ?_⟩
  · unfold pLa
    go_simp
    first | exact rfl | exact ⟨rfl, rfl⟩
  go_simp
 refine VG.wQe rfl rfl ?_
 apply Exists.intro
 refine ⟨fun wq hq => ?_, ?_⟩
 · have k1 := (LQ.out _ hq).cell 1
   unfold pLa
   go_simp
   first | exact rfl | exact ⟨rfl, rfl⟩
 go_simp
 refine VG.wQe rfl rfl ?_
 apply Exists.intro
 refine ⟨fun wq hq => ?_, ?_⟩
 · have k5 := (LQ.out _ hq).cell 5
   unfold pLa
   go_simp
   first | exact rfl | exact ⟨rfl, rfl⟩
 go_simp
 refine VG.wQe rfl rfl ?_
 apply Exists.intro
 refine ⟨fun wq hq => ?_, ?_⟩
 · have k7 := (LQ.out _ hq).cell 7
   unfold pLa
   go_simp
   first | exact rfl | exact ⟨rfl, rfl⟩
 go_simp
 refine VG.wPe rfl rfl ?_
 apply Exists.intro
 refine ⟨fun wq => ?_, ?_⟩
 · unfold pLa
   go_simp
   first | exact rfl | exact ⟨rfl, rfl⟩
 go_simp
 refine VG.wpG_c rfl rfl ?_
 intro w5 g5 K hK
 have O5 : Hid (Own w w5 5 1 (.slice (some ⟨pp, oo, none⟩) 6 c3) 6 ((be first 4 ++ be k 2).map u8c)) := O4.out.mono ((Gr.drew _).trans g5)
 have S5 : Hid (Bs w5 r.a r.n r.c r.l) := HQ.out.b.mono O5.out.below
 refine wp_catG (.tmp 58) (.tmp 59) 36 rfl tBytes rfl O5.out rfl S5.out (one_bytes _) (show (6 + r.n) * 1 ≤ 140737488355328 by omega) ?_
 intro v6 w6 o6 kp6
 rw [← List.map_append] at o6
 have T6 : Tch (fun b => b = pp) w5 w6 := (kp6.tch (below_two O5.out.below o6.below kp6.2.1)).mono (fun b _ q => by
  have : some pp = some b := q
  injection this with e
  exact e.symm)
 refine hK _ _ T6 ?_
 have O6 := Lib.hid o6
 obtain ⟨A6, c6, rfl, s6⟩ := o6.slice
 have S6 : Hid (Bs w6 A6 (6 + r.n) c6 ((be first 4 ++ be k 2) ++ r.l)) := s6
 clear hK T6 kp6 o6 s6
 go_simp
 refine VG.wPe rfl rfl ?_
 apply Exists.intro
 refine ⟨fun wq => ?_, ?_⟩
 · unfold pLa
   go_simp
   first | exact rfl | exact ⟨rfl, rfl⟩
 go_simp
 refine VG.wpG_t rfl rfl ?_
 intro w7 g7 K hK
 go_simp
 go_at_call 80
 refine (HEN.out w7 (Gr.trans (show Gr w w6 from O6.out.below) g7) A6 c6 (by rw [HXB.out]; exact S6.out.mono g7)).mono ?_
 rintro e wn ⟨A8, c8, rfl, q8, h8, k8⟩
 refine hK _ _ k8 ?_; have K8 := Lib.hid ((KQ.gr (kb := L.kb) (Gr.trans (show Gr w w6 from O6.out.below) g7)).trans k8); have H8 := Lib.hid h8; have Q8 := Lib.hid q8; clear g7 q8 h8 k8 hK
 go_simp
 iterate 5
  refine VG.wPe rfl rfl ?_
  apply Exists.intro
  refine ⟨fun wq => ?_, ?_⟩
  · unfold pLa
    go_simp
    first | exact rfl | exact ⟨rfl, rfl⟩
  go_simp
 refine VG.wNi ?_
 intro w9 g9
 have K9 := Lib.hid (K8.out.trans (KQ.gr g9)); have H9 := Lib.hid (H8.out.mono g9); have Q9 := Lib.hid (Q8.out.mono g9)
 clear g9
 have k0 := (log_keep K9.out HLOG.out).cell 0
 have HWR := Lib.hid (H9.out.write HO1.out (by omega) v HPK.out A8 c8 _ Q9.out)
 rw [← HR.out] at HWR
 go_wp2_with fail
 refine HWR.out.mono ?_
 rintro e w10 ⟨rfl, h10, k10⟩
 have H10 := Lib.hid h10; have K10 := Lib.hid (K9.out.trans k10)
 clear h10 k10
 go_wp2_with fail
 go_ret
 exact ⟨rfl, H10.out, K10.out⟩
end
end
section
open Go.RowKit
structure Mc.Live (m : Mc) : Prop where
 d : m.d.down = false
 f : m.d.fuse = -1
theorem burn_live {d : Dk} (hd : d.down = false) (hf : d.fuse = -1) : d.burn.2 = 0 ∧ d.burn.1.down = false ∧ d.burn.1.fuse = -1 := by
 unfold Dk.burn
 rw [if_neg (by omega), if_neg (by omega)]
 exact ⟨rfl, hd, hf⟩
theorem Mc.Live.enc {m : Mc} (h : m.Live) (v : Nat) (x : Sec) : (m.enc v x).Live := ⟨h.d, h.f⟩
theorem Mc.Live.write {m : Mc} (h : m.Live) (v : Nat) (b : List UInt8) : (m.write v b).2 = 0 ∧ (m.write v b).1.Live := by
 obtain ⟨h1, h2, h3⟩ := burn_live (d := m.d.pushed v b) h.d h.f
 unfold Mc.write
 rw [if_neg (by rw [h.d]; decide)]
 exact ⟨h1, h2, h3⟩
theorem Mc.Live.flush {m : Mc} (h : m.Live) : m.flush.2 = 0 ∧ m.flush.1.Live := by
 obtain ⟨h1, h2, h3⟩ := burn_live h.d h.f
 unfold Mc.flush
 rw [if_neg (by rw [h.d]; decide)]
 unfold Dk.flush
 rw [if_pos h1]
 obtain ⟨k1, k2, k3, k4, k5, k6⟩ := keeps_all m.d.pend m.d.burn.1
 exact ⟨rfl, ⟨by show (m.d.burn.1.keeps m.d.pend).down = false; rw [k6]; exact h2, by show (m.d.burn.1.keeps m.d.pend).fuse = -1; rw [k4]; exact h3⟩⟩
theorem Mc.Live.walPut {m : Mc} (h : m.Live) (l : Int) (life base first i kind gen k : Nat) (b : List UInt8) : (m.walPut l life base first i kind gen k b).2 = 0 ∧ (m.walPut l life base first i kind gen k b).1.Live := (h.enc _ _).write _ _
structure PRow where
 k : Nat
 r : BRow
def PRow.cells (x : PRow) : List Value := [.int .i64 (x.k : Int), .slice x.r.a x.r.n x.r.c]
theorem PRow.cells_len (x : PRow) : x.cells.length = 2 := rfl
theorem PRow.row {w : World} {A : Option Addr} {n c : Nat} {R : List PRow} (h : Rs PRow.cells 2 w A n c R) {k : Nat} (hk : k < n) :
 ∃ b o x, A = some ⟨b, o, none⟩ ∧ R[k]? = some x ∧ w.cell? ⟨b, o + k * 2, none⟩ = some (.int .i64 (x.k : Int)) ∧ w.cell? ⟨b, o + k * 2 + 1, none⟩ = some (.slice x.r.a x.r.n x.r.c) := by
 obtain ⟨b, o, x, e, hx, hc⟩ := Rs.row h PRow.cells_len hk
 exact ⟨b, o, x, e, hx, hc 0 _ rfl, hc 1 _ rfl⟩
structure PgW (kb : Nat) (w : World) (A : Option Addr) (n c : Nat) (R : List PRow) : Prop where
 s : Rs PRow.cells 2 w A n c R
 u : Safe kb w A n
 r : ∀ x ∈ R, QB kb w x.r.a x.r.n x.r.c x.r.l
theorem PgW.kq {kb : Nat} {w w' : World} {A : Option Addr} {n c : Nat} {R : List PRow} (h : PgW kb w A n c R) (k : KQ kb w w') : PgW kb w' A n c R := ⟨⟨h.s.1, h.s.2.kq h.u k⟩, h.u.kq k, fun r hr => (h.r r hr).kq k⟩
def Mc.walPuts (m : Mc) (l : Int) (life base first gen : Nat) : Nat → List (Nat × List UInt8) → Mc
 | _, [] => m
 | i, p :: P => (m.walPut l life base first i 4 gen p.1 p.2).1.walPuts l life base first gen (i + 1) P
def Mc.walAppend (m : Mc) (l : Int) (life base first gen : Nat) (P : List (Nat × List UInt8)) : Mc :=
 ((m.walPuts l life base first gen 0 P).flush.1.walPut l life base first P.length 5 gen P.length []).1.flush.1
theorem walPuts_snoc {l : Int} {life base first gen : Nat} : ∀ (P : List (Nat × List UInt8)) (m : Mc) (i : Nat) (p : Nat × List UInt8), m.walPuts l life base first gen i (P ++ [p]) = ((m.walPuts l life base first gen i P).walPut l life base first (i + P.length) 4 gen p.1 p.2).1
 | [], m, i, p => rfl
 | x :: P, m, i, p => by
  show (m.walPut l life base first i 4 gen x.1 x.2).1.walPuts l life base first gen (i + 1) (P ++ [p]) = _
  rw [walPuts_snoc P, show i + 1 + P.length = i + (P.length + 1) by omega]
  rfl
theorem walPuts_all {l : Int} {life base first gen : Nat} : ∀ (P : List (Nat × List UInt8)) (m : Mc) (i n : Nat), m.Live → m.Ok n → (m.walPuts l life base first gen i P).Live ∧ (m.walPuts l life base first gen i P).Ok (n + 2 * P.length) ∧ (m.walPuts l life base first gen i P).d.kept.length = m.d.kept.length
 | [], m, i, n, hl, ho => ⟨hl, ho, rfl⟩
 | x :: P, m, i, n, hl, ho => by
  obtain ⟨h1, h2, h3⟩ := walPuts_all P (m.walPut l life base first i 4 gen x.1 x.2).1 (i + 1) (n + 2) (hl.walPut _ _ _ _ _ _ _ _ _).2 (ho.walPut _ _ _ _ _ _ _ _ _)
  exact ⟨h1, h2.le (by rw [List.length_cons]; omega), h3.trans (walPut_kept _ _ _ _ _ _ _ _ _ _)⟩
section
variable {w0 w w' : World} {L : Pl} {m : Mc} {n : Nat} {a d l : Int}
set_option maxHeartbeats 400000 in
theorem indexNone (A : Option Addr) (n c : Nat) (R : List PRow) (C : Value) (w : World) (h : Rs PRow.cells 2 w A n c R) (hq : ∀ x ∈ R, ∀ w', Gr w w' → Calls Tryz.prog 237 #[.agg #[.int .i64 (x.k : Int), .slice x.r.a x.r.n x.r.c], C] w' fun e w'' => e = .returned (.bool false) ∧ Gr w' w'') :
 Calls Tryz.prog 271 #[.slice A n c, .func (.func 237) #[] #[C]] w fun e w' => e = .returned (.int .i64 (-1)) ∧ Gr w w' := by
 have hmax := h.max
 have hcap := h.cap
 have HH := Lib.hid h; have HQ := Lib.hid hq; clear h hq
 go_enter Tryz.func271, Tryz.ntmps271
 go_wp2
 go_loopw [8] (fun i wr => ∃ k : Nat, k ≤ n ∧ i = .int .i64 k ∧ Gr w wr) (fun i _ => n - (Go.RowKit.intOf i).toNat)
 case atStart => exact ⟨0, Nat.zero_le _, rfl, Gr.refl _⟩
 case round =>
  obtain ⟨k, hk, rfl, hbel⟩ := hrel
  have HB := Lib.hid hbel
  by_cases hlt : k < n
  · obtain ⟨b, o, x, rfl, hx, c0, c1⟩ := PRow.row (HH.out.mono hbel) hlt
    have HC := Lib.hid (HQ.out x (List.mem_of_getElem? hx) wr hbel)
    clear hbel hx
    go_wp2_with (go_at_call 237; refine HC.out.mono ?_; rintro e w1 ⟨rfl, b1⟩)
    go_roundw
    case rel => exact ⟨k + 1, by omega, by go_num, HB.out.trans b1⟩
    case measure => simp [Go.RowKit.intOf]; omega
  · obtain rfl : n = k := by omega
    clear hbel
    go_wp2
    go_ret
    exact ⟨rfl, HB.out⟩
theorem containsNone (A : Option Addr) (n c : Nat) (R : List PRow) (C : Value) (w : World) (h : Rs PRow.cells 2 w A n c R) (hq : ∀ x ∈ R, ∀ w', Gr w w' → Calls Tryz.prog 237 #[.agg #[.int .i64 (x.k : Int), .slice x.r.a x.r.n x.r.c], C] w' fun e w'' => e = .returned (.bool false) ∧ Gr w' w'') :
 Calls Tryz.prog 238 #[.slice A n c, .func (.func 237) #[] #[C]] w fun e w' => e = .returned (.bool false) ∧ Gr w w' := by
 have HI := Lib.hid (indexNone A n c R C w h hq)
 clear h hq
 go_enter Tryz.func238, Tryz.ntmps238
 go_wp2_with fail
 refine HI.out.mono ?_
 rintro e w1 ⟨rfl, g1⟩
 have G1 := Lib.hid g1; clear g1
 go_wp2_with fail
 go_ret
 exact ⟨rfl, G1.out⟩
set_option maxRecDepth 100000 in
set_option maxHeartbeats 1000000 in
theorem wrong_any (pv pl life base first : Nat) (x : PRow) (w : World) (hv : Blk w pv 109 [.pointer (some ⟨pl, 0, none⟩)]) (hl : Blk w pl 193 (logC L a d l life base first)) (hk : (x.k : Int) < pagesI a d l) (hn : x.r.n ≤ 473) :
 Calls Tryz.prog 237 #[.agg #[.int .i64 (x.k : Int), .slice x.r.a x.r.n x.r.c], .pointer (some ⟨pv, 0, none⟩)] w fun e w' => e = .returned (.bool false) ∧ Gr w w' := by
 obtain ⟨W, hW⟩ : ∃ W, W = w.alloc (.cells #[.int .i64 (x.k : Int), .slice x.r.a x.r.n x.r.c] 188) := ⟨_, rfl⟩
 have G0 : Hid (Gr w W) := by rw [hW]; exact Gr.alloc _ _
 have B0 : Hid (Blk W w.heap.size 188 [.int .i64 (x.k : Int), .slice x.r.a x.r.n x.r.c]) := by rw [hW]; exact Blk.new w _ _
 have HW := Lib.hid hW; clear hW
 have HV := Lib.hid (hv.mono G0.out); have HL := Lib.hid (hl.mono G0.out)
 have HPG := Lib.hid (fun wr => pages_any a d l wr)
 have t1 : decide ((x.k : Int) < 0) = false := decide_eq_false (by omega)
 have t2 : decide (pagesI a d l ≤ (x.k : Int)) = false := decide_eq_false (by omega)
 have t3 : decide ((473 : Int) < (x.r.n : Int)) = false := decide_eq_false (by omega)
 clear hv hl
 generalize pagesI a d l = pg at *
 go_enter Tryz.func237, Tryz.ntmps237
 go_upto_region 1 with fail
 rw [← HW.out]
 refine wp_region_quiet (C := fun w' => Below (W).heap.size (W) w') (by kernel_rfl) (by kernel_rfl) (Below.refl _ _).drew ?_
 simp only
 repeat (first
  | go_big_quiet_skip
  | (go_big_quiet_want
     apply Exists.intro
     refine ⟨fun wq hq => ?_, ?_⟩
     · (have k0 := (B0.out.mono hq).cell 0; have k1 := (B0.out.mono hq).cell 1; have v0 := (HV.out.mono hq).cell 0; have y2 := (HL.out.mono hq).cell 2; have y3 := (HL.out.mono hq).cell 3; have y4 := (HL.out.mono hq).cell 4
        go_simp
        first
         | done
         | exact rfl
         | (with_reducible exact ⟨rfl, rfl⟩)
         | (go_at_call 134; exact (HPG.out wq).mono fun e w2 ⟨he, hb⟩ => ⟨he, bBo hq hb⟩))
     go_simp
     go_big_quiet_on))
 refine wpQuiet_nil ?_
 intro wq hq
 go_wp2_with fail
 go_ret
 exact ⟨rfl, G0.out.trans hq⟩
end
end
section
open Go.RowKit
structure KX (S : Nat → Prop) (kb : Nat) (w w' : World) : Prop where
 size : w.heap.size ≤ w'.heap.size
 keep : ∀ (b : Nat) (a : Array Value) (t : TypeId) (m : Nat × Nat), w.heap[b]? = some (.cells a t m) → ¬ tyM t → (t = 256 → b ≠ kb) → ¬ S b → w'.heap[b]? = some (.cells a t m)
section
variable {S S' : Nat → Prop} {kb : Nat} {w w' w'' : World}
theorem KX.kq (h : KQ kb w w') : KX S kb w w' := ⟨h.1, fun b a t m e h1 h2 _ => h.2 b a t m e h1 h2⟩
theorem KX.gr (h : Gr w w') : KX S kb w w' := KX.kq (KQ.gr h)
theorem KX.trans (h : KX S kb w w') (k : KX S kb w' w'') : KX S kb w w'' := ⟨Nat.le_trans h.size k.size, fun b a t m e h1 h2 h3 => k.keep b a t m (h.keep b a t m e h1 h2 h3) h1 h2 h3⟩
theorem KX.wide (h : KX S kb w w') (hs : ∀ b, b < w.heap.size → S b → S' b) : KX S' kb w w' := ⟨h.size, fun b a t m e h1 h2 h3 => h.keep b a t m e h1 h2 (fun q => h3 (hs b (at_lt e) q))⟩
theorem KX.tch (T : Tch S w w') : KX S kb w w' := ⟨T.size, fun b a t m e _ _ h3 => (T.keep b (at_lt e) h3).trans e⟩
theorem KX.blk (h : KX S kb w w') {b : Nat} {t : TypeId} {cs : List Value} (hb : Blk w b t cs) (h1 : ¬ tyM t) (h2 : t = 256 → b ≠ kb) (h3 : ¬ S b) : Blk w' b t cs := h.keep b _ t _ hb h1 h2 h3
theorem KX.to_kq (h : KX S kb w w') (hs : ∀ b, b < w.heap.size → ¬ S b) : KQ kb w w' := ⟨h.size, fun b a t m e h1 h2 => h.keep b a t m e h1 h2 (hs b (at_lt e))⟩
end
instance (S : Nat → Prop) (kb : Nat) : VG.LtO (KX S kb) := ⟨fun w => KX.gr (Gr.refl w), KX.trans, KX.size, KX.gr⟩
theorem tyA_log : ¬ tyA 193 := by unfold tyA tyM; decide
theorem pageSize : (Tryz.prog.info? 188).map (·.size) = some 2 := by kernel_rfl
def pageC (k : Nat) (A : Option Addr) (n c : Nat) : Array Value := #[.int .i64 (k : Int), .slice A n c]
theorem pageOne (k : Nat) (A : Option Addr) (n c : Nat) : (pageC k A n c).all (·.oneCell') = true := by
 rw [Array.all_eq_true']
 intro v hv
 have : v ∈ [Value.int .i64 (k : Int), .slice A n c] := by simpa [pageC] using hv
 simp only [List.mem_cons, List.not_mem_nil, or_false] at this
 rcases this with h | h <;> subst h <;> rfl
section
variable {w0 w w' : World} {L : Pl} {m : Mc} {n : Nat} {a d l : Int}
set_option maxRecDepth 100000 in
set_option maxHeartbeats 4000000 in
theorem walAppend_any (h : MSt w0 L m w) (f : Fit m a d l) (hlv : m.Live) (ho : m.Ok n) (pl life base first gen : Nat) (hl : life < 18446744073709551616) (hb : base ≤ 1073741824) (hg : gen < 18446744073709551616) (hlog : Blk w pl 193 (logC L a d l life base first)) (hge : w0.heap.size ≤ pl)
 (A : Option Addr) (N c : Nat) (R : List PRow) (hP : PgW L.kb w A N c R) (hk : ∀ x ∈ R, (x.k : Int) < pagesI a d l) (hsm : ∀ x ∈ R, x.r.n ≤ 473) (hN : (first : Int) + (N : Int) + 1 ≤ l) (hn : n + 2 * N + 4 ≤ 900) :
 Calls Tryz.prog 191 #[.pointer (some ⟨pl, 0, none⟩), .slice A N c, .int .u64 (gen : Int)] w fun e w' => e = .returned (.int .i64 0) ∧ MSt w0 L (m.walAppend l life base first gen (R.map fun x => (x.k, x.r.l))) w' ∧ Blk w' pl 193 (logC L a d l life base (first + N + 1)) ∧ KX (fun b => b = pl) L.kb w w' := by
 obtain ⟨h3, h4⟩ := f.g.l
 have hRN : R.length = N := hP.s.1
 have g0 : Gr w (w.alloc (.cells #[.pointer (some ⟨pl, 0, none⟩)] 109)) := Gr.alloc _ _
 have bv : Blk (w.alloc (.cells #[.pointer (some ⟨pl, 0, none⟩)] 109)) w.heap.size 109 [.pointer (some ⟨pl, 0, none⟩)] := Blk.new w _ _
 obtain ⟨W, hW⟩ : ∃ W, W = w.alloc (.cells #[.pointer (some ⟨pl, 0, none⟩)] 109) := ⟨_, rfl⟩
 rw [← hW] at g0 bv
 have G0 := Lib.hid g0; have BV := Lib.hid bv; have HW := Lib.hid hW
 have LOG0 := Lib.hid (hlog.mono g0)
 have HP := Lib.hid hP
 have HCT := Lib.hid (containsNone A N c R (.pointer (some ⟨w.heap.size, 0, none⟩)) W (hP.s.mono g0) (fun x hx wr gr => wrong_any w.heap.size pl life base first x wr (bv.mono gr) ((hlog.mono g0).mono gr) (hk x hx) (hsm x hx)))
 have HFI := Lib.hid (fun wr => walFits_any f.g N wr)
 have hfit : decide ((N : Int) < l) = true := decide_eq_true (by omega)
 rw [hfit] at HFI
 have HRO := Lib.hid (fun wr (g : Gr W wr) => walRoom_any pl life base first wr f.g (by omega) ((hlog.mono g0).mono g))
 have tr : decide (l - (first : Int) ≤ (N : Int)) = false := decide_eq_false (by omega)
 have HPT := Lib.hid (fun (mk : Mc) (nk : Nat) (wk : World) (h1 : MSt w0 L mk wk) (h2 : mk.d.kept.length = m.d.kept.length) (h3 : mk.Ok nk) (h4 : nk + 2 ≤ 900) (i kind k : Nat) (hi : i ≤ 100) (hk1 : 1 ≤ kind) (hk5 : kind ≤ 5) (hk : k ≤ 1000000) (r : BRow) (hr : r.n ≤ 473) (hq : QB L.kb wk r.a r.n r.c r.l) (hb' : Blk wk pl 193 (logC L a d l life base first)) =>
  walPut_any h1 ⟨f.g, by rw [h2]; exact f.s⟩ h3 h4 pl life base first i kind gen k hl hb (by omega) hi hk1 hk5 hg hk r hr hq hb')
 have hcap := Sl.cap hP.s.2; have hmax := Sl.max hP.s.2
 obtain ⟨P, hPd⟩ : ∃ P, P = R.map fun x => (x.k, x.r.l) := ⟨_, rfl⟩
 rw [← hPd]
 have hPl : P.length = N := by rw [hPd, List.length_map]; exact hRN
 obtain ⟨S, hS⟩ : ∃ S : Nat → Mc, S = fun k => m.walPuts l life base first gen 0 (P.take k) := ⟨_, rfl⟩
 have HS0 : Hid (S 0 = m) := by show _ = _; rw [hS]; rfl
 have HSA : Hid (∀ k, k ≤ N → (S k).Live ∧ (S k).Ok (n + 2 * k) ∧ (S k).d.kept.length = m.d.kept.length) := fun k hk => by
  rw [hS]
  obtain ⟨h1, h2, h3⟩ := walPuts_all (l := l) (life := life) (base := base) (first := first) (gen := gen) (P.take k) m 0 n hlv ho
  exact ⟨h1, h2.le (by rw [List.length_take]; omega), h3⟩
 have HSS : Hid (∀ k x, k < N → R[k]? = some x → S (k + 1) = ((S k).walPut l life base first k 4 gen x.k x.r.l).1) := fun k x hk hx => by
  rw [hS]
  simp only
  rw [List.take_add_one, show P[k]? = some (x.k, x.r.l) by rw [hPd, List.getElem?_map, hx]; rfl]
  show m.walPuts l life base first gen 0 (P.take k ++ [(x.k, x.r.l)]) = _
  rw [walPuts_snoc, List.length_take, hPl, Nat.min_eq_left (by omega), Nat.zero_add]
 obtain ⟨Z, hZ⟩ : ∃ Z, Z = m.walAppend l life base first gen P := ⟨_, rfl⟩
 rw [← hZ]
 unfold Mc.walAppend at hZ
 have hZS : m.walPuts l life base first gen 0 P = S N := by rw [hS]; simp only; rw [List.take_of_length_le (by omega)]
 rw [hZS, hPl] at hZ
 have HZ := Lib.hid hZ
 have HKR := Lib.hid hk; have HSM := Lib.hid hsm; have HH := Lib.hid h; have HNN := Lib.hid hn; have HRN := Lib.hid hRN
 have HPGM := Lib.hid (pgE a d l)
 have hNl : N ≤ 64 := by omega
 clear h f hlv ho hP hk hsm hlog hRN g0 bv hW hfit hPd hPl hS hZ hZS
 go_enter Tryz.func191, Tryz.ntmps191
 go_upto_region 1 with fail
 rw [← HW.out]
 have v0 := BV.out.cell 0
 go_wp2_with fail
 refine HCT.out.mono ?_
 rintro e w1 ⟨rfl, g1⟩
 have G1 := Lib.hid (G0.out.trans g1)
 have BV1 := Lib.hid (BV.out.mono g1)
 have LOG1 := Lib.hid (LOG0.out.mono g1)
 have GW1 := Lib.hid g1
 clear g1 v0
 have v0 := BV1.out.cell 0
 have y2 := LOG1.out.cell 2
 have y3 := LOG1.out.cell 3
 have y4 := LOG1.out.cell 4
 go_wp2_with fail
 refine (HFI.out _).mono ?_
 rintro e w2 ⟨rfl, g2⟩
 have G2 := Lib.hid (G1.out.trans g2)
 have BV2 := Lib.hid (BV1.out.mono g2)
 have LOG2 := Lib.hid (LOG1.out.mono g2)
 have GW2 := Lib.hid (GW1.out.trans g2)
 clear g2 v0 y2 y3 y4
 have v0 := BV2.out.cell 0
 go_wp2_with fail
 refine (HRO.out _ GW2.out).mono ?_
 rintro e w3 ⟨rfl, g3⟩
 have G3 := Lib.hid (G2.out.trans g3)
 have BV3 := Lib.hid (BV2.out.mono g3)
 have LOG3 := Lib.hid (LOG2.out.mono g3)
 clear g3 v0
 go_wp2_with fail
 go_loopw [40] (fun i wr => ∃ k : Nat, k ≤ N ∧ i = .int .i64 (k : Int) ∧ MSt w0 L (S k) wr ∧ KQ L.kb w wr ∧ Blk wr w.heap.size 109 [.pointer (some ⟨pl, 0, none⟩)] ∧ Blk wr pl 193 (logC L a d l life base first)) (fun i _ => N - (Go.RowKit.intOf i).toNat)
 case atStart => exact ⟨0, Nat.zero_le _, rfl, by rw [HS0.out]; exact HH.out.mono G3.out, KQ.gr G3.out, BV3.out, LOG3.out⟩
 case round =>
  obtain ⟨k, hk, rfl, hm, hq, hv, hlg⟩ := hrel
  have HM := Lib.hid hm; have HQ := Lib.hid hq; have HV := Lib.hid hv; have HLG := Lib.hid hlg
  clear hm hq hv hlg
  by_cases hlt : k < N
  · have t : decide ((k : Int) < (N : Int)) = true := decide_eq_true (by omega)
    have hPW := HP.out.kq HQ.out
    obtain ⟨b, o, x, rfl, hx, c0, c1⟩ := PRow.row hPW.s hlt
    obtain ⟨s1, s2, s3⟩ := HSA.out k hk
    have HSN := Lib.hid (HSS.out k x hlt hx)
    have hmem := List.mem_of_getElem? hx
    have HXQ := Lib.hid (hPW.r x hmem)
    have hxn := HSM.out x hmem
    have hxk : x.k ≤ 264 := by have := HKR.out x hmem; have := HPGM.out; omega
    have HLV := Lib.hid s1; have HOK := Lib.hid s2; have HKP := Lib.hid s3
    clear s1 s2 s3 hPW hx hmem
    have wk : IntKind.i64.wrap ((k : Int) + 1) = (k : Int) + 1 := IntWalk.i64_in _ (by omega)
    go_upto_region 14 with (refine wpList_store_row rfl 188 (.tmp 10) (.tmp 44) rfl wr.heap.size (pageC x.k x.r.a x.r.n x.r.c) rfl rfl 188 #[.int .i64 0, .slice none 0 0] (Blk.new wr 188 #[.int .i64 0, .slice none 0 0]) pageSize rfl (pageOne _ _ _ _) ?_)
    obtain ⟨w4, hw4⟩ : ∃ w4, w4 = (wr.alloc (.cells #[.int .i64 0, .slice none 0 0] 188)).setRow wr.heap.size (pageC x.k x.r.a x.r.n x.r.c) := ⟨_, rfl⟩
    have G4 : Hid (Gr wr w4) := by
     show Gr _ _
     rw [hw4]
     exact (Tch.row (S := fun b => b = wr.heap.size) (w := wr.alloc (.cells #[.int .i64 0, .slice none 0 0] 188)) (g := wr.heap.size) rfl (pageC x.k x.r.a x.r.n x.r.c)).below (Gr.alloc _ _) (Gr.alloc wr _).size (fun b e => e ▸ Nat.le_refl _)
    have B4 : Hid (Blk w4 wr.heap.size 188 [.int .i64 (x.k : Int), .slice x.r.a x.r.n x.r.c]) := by
     show Blk _ _ _ _
     rw [hw4]
     exact setRow_heap _ wr.heap.size _ (pageC x.k x.r.a x.r.n x.r.c) _ _ (Blk.new wr _ #[.int .i64 0, .slice none 0 0])
    rw [← hw4]
    clear hw4
    have v0 := (HV.out.mono G4.out).cell 0
    have b0 := B4.out.cell 0
    have b1 := B4.out.cell 1
    have HPU := Lib.hid (HPT.out (S k) (n + 2 * k) w4 (HM.out.mono G4.out) HKP.out HOK.out (by have := HNN.out; omega) k 4 x.k (by omega) (by decide) (by decide) (by omega) x.r hxn (HXQ.out.mono G4.out) (HLG.out.mono G4.out))
    have hz : ((S k).walPut l life base first k 4 gen x.k x.r.l).2 = 0 := (HLV.out.walPut _ _ _ _ _ _ _ _ _).1
    obtain ⟨r, hr⟩ : ∃ r, r = (S k).walPut l life base first k 4 gen x.k x.r.l := ⟨_, rfl⟩
    rw [← hr] at HPU hz HSN
    clear hr c0 c1
    go_wp2_with fail
    refine HPU.out.mono ?_
    rintro e w5 ⟨rfl, h5, k5⟩
    rw [hz]
    have H5 := Lib.hid h5
    have K5 := Lib.hid (HQ.out.trans ((KQ.gr G4.out).trans k5))
    have V5 := Lib.hid (((KQ.gr (kb := L.kb) G4.out).trans k5).blk HV.out (by unfold tyM; decide) (fun e => absurd e (by decide)))
    have L5 := Lib.hid (log_keep ((KQ.gr (kb := L.kb) G4.out).trans k5) HLG.out)
    clear h5 k5 v0 b0 b1 hz
    go_wp2_with fail
    refine ⟨⟨k + 1, by omega, by go_num, by rw [HSN.out]; exact H5.out, K5.out, V5.out, L5.out⟩, by simp [Go.RowKit.intOf]; omega⟩
  · obtain rfl : N = k := by omega
    have t : decide ((N : Int) < (N : Int)) = false := decide_eq_false (by omega)
    obtain ⟨s1, s2, s3⟩ := HSA.out N (Nat.le_refl _)
    have HLV := Lib.hid s1; have HOK := Lib.hid s2; have HKP := Lib.hid s3
    clear s1 s2 s3
    have HFL := Lib.hid (HM.out.flush HOK.out (by have := HNN.out; omega))
    have hz := HLV.out.flush.1
    have HLV2 := Lib.hid HLV.out.flush.2
    have HOK2 := Lib.hid HOK.out.flush
    have HKP2 : Hid ((S N).flush.1.d.kept.length = m.d.kept.length) := (flush_kept (S N)).trans HKP.out
    obtain ⟨r1, hr1⟩ : ∃ r1, r1 = (S N).flush := ⟨_, rfl⟩
    rw [← hr1] at HFL hz HLV2 HOK2 HZ HKP2
    clear hr1
    have v0 := HV.out.cell 0
    have y0 := HLG.out.cell 0
    go_wp2_with fail
    refine HFL.out.mono ?_
    rintro e w5 ⟨rfl, h5, k5⟩
    rw [hz]
    have H5 := Lib.hid h5
    have K5 := Lib.hid (HQ.out.trans k5)
    have V5 := Lib.hid (k5.blk HV.out (by unfold tyM; decide) (fun e => absurd e (by decide)))
    have L5 := Lib.hid (log_keep k5 HLG.out)
    clear h5 k5 v0 y0 hz
    have v0 := V5.out.cell 0
    have HPU := Lib.hid (HPT.out r1.1 (n + 2 * N + 1) w5 H5.out HKP2.out HOK2.out (by have := HNN.out; omega) N 5 N (by omega) (by decide) (by decide) (by omega) ⟨none, 0, 0, []⟩ (by decide) (QB.nil L.kb w5) L5.out)
    have hz : (r1.1.walPut l life base first N 5 gen N []).2 = 0 := (HLV2.out.walPut _ _ _ _ _ _ _ _ _).1
    have HLV3 := Lib.hid (HLV2.out.walPut l life base first N 5 gen N []).2
    have HOK3 := Lib.hid (HOK2.out.walPut l life base first N 5 gen N [])
    obtain ⟨r2, hr2⟩ : ∃ r2, r2 = r1.1.walPut l life base first N 5 gen N [] := ⟨_, rfl⟩
    rw [← hr2] at HPU hz HLV3 HOK3 HZ
    clear hr2
    go_wp2_with fail
    refine HPU.out.mono ?_
    rintro e w6 ⟨rfl, h6, k6⟩
    rw [hz]
    have H6 := Lib.hid h6
    have K6 := Lib.hid (K5.out.trans k6)
    have V6 := Lib.hid (k6.blk V5.out (by unfold tyM; decide) (fun e => absurd e (by decide)))
    have L6 := Lib.hid (log_keep k6 L5.out)
    clear h6 k6 v0 hz
    have v0 := V6.out.cell 0
    have y0 := L6.out.cell 0
    have HFL := Lib.hid (H6.out.flush HOK3.out (by have := HNN.out; omega))
    have hz := HLV3.out.flush.1
    obtain ⟨r3, hr3⟩ : ∃ r3, r3 = r2.1.flush := ⟨_, rfl⟩
    rw [← hr3] at HFL hz HZ
    clear hr3
    go_wp2_with fail
    refine HFL.out.mono ?_
    rintro e w7 ⟨rfl, h7, k7⟩
    rw [hz]
    have H7 := Lib.hid h7
    have K7 := Lib.hid (K6.out.trans k7)
    have V7 := Lib.hid (k7.blk V6.out (by unfold tyM; decide) (fun e => absurd e (by decide)))
    have L7 := Lib.hid (log_keep k7 L6.out)
    clear h7 k7 v0 y0 hz
    have v0 := V7.out.cell 0
    have y7 := L7.out.cell 7
    have fy := Blk.free L7.out 7
    have w1 : IntKind.i64.wrap ((N : Int) + 1) = (N : Int) + 1 := IntWalk.i64_in _ (by omega)
    have w2 : IntKind.i64.wrap ((first : Int) + ((N : Int) + 1)) = ((first + N + 1 : Nat) : Int) := by rw [IntWalk.i64_in _ (by omega)]; omega
    go_wp2_with fail
    go_ret
    refine ⟨rfl, ?_, L7.out.set 7 _, (KX.kq K7.out).trans (KX.tch (Tch.set ⟨pl, 7, none⟩ _ rfl))⟩
    rw [HZ.out]
    exact H7.out.off (Tch.set (S := fun b => b = pl) ⟨pl, 7, none⟩ _ rfl) (fun b e => e ▸ hge) (fun b e => e ▸ ⟨_, _, L7.out, tyA_log⟩)
end
end
end Go.Proofs.YtdkmlmbehlooiaaGreatDoor
