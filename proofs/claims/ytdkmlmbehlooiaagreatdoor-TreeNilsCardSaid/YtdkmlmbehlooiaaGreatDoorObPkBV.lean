/- Own texts, one behind the other. No condition. -/
import Derived.Test.YtdkmlmbehlooiaaGreatDoorObPkBU
set_option linter.unusedVariables false
set_option linter.unusedSimpArgs false
namespace Go.Proofs.YtdkmlmbehlooiaaGreatDoor
section
open Go.RowKit Go.Maps
def RtFa (w w' : World) : Prop := w.heap.size ≤ w'.heap.size ∧ ∀ b cs, Blk w b 27 cs → Blk w' b 27 cs
theorem walAppend_all {m : Mc} {n : Nat} {l : Int} {life base first gen : Nat} (P : List (Nat × List UInt8)) (hl : m.Live) (ho : m.Ok n) : (m.walAppend l life base first gen P).Live ∧ (m.walAppend l life base first gen P).Ok (n + 2 * P.length + 4) ∧ (m.walAppend l life base first gen P).d.kept.length = m.d.kept.length := by
 obtain ⟨h1, h2, h3⟩ := walPuts_all (l := l) (life := life) (base := base) (first := first) (gen := gen) P m 0 n hl ho
 exact ⟨(h1.flush.2.walPut _ _ _ _ _ _ _ _ _).2.flush.2, ((h2.flush.walPut _ _ _ _ _ _ _ _ _).flush).le (by omega), (flush_kept _).trans ((walPut_kept _ _ _ _ _ _ _ _ _ _).trans ((flush_kept _).trans h3))⟩
section
variable {w0 w w' : World} {L : Pl} {m m' : Mc} {n n' : Nat} {x : Spr} {vl vk : Value} {next : Nat} {due : Bool} {pt ps b c : Nat} {R : List BRow}
def Mc.turn (m : Mc) (x : Spr) (first : Nat) (nxt : List UInt8) (P : List (Nat × List UInt8)) : Mc := (((m.rootPut (x.gen + 1) nxt).1.walAppend 3 x.life x.base first (x.gen + 1) P).rootErase x.gen).1
set_option maxRecDepth 100000 in
set_option maxHeartbeats 8000000 in
theorem treeTurn_any {pl first c' : Nat} {A0 NA A' : Option Addr} {c0 nc : Nat} {nxt : List UInt8} {P : List PRow} (h : TrP w0 L m n x (.pointer (some ⟨pl, 0, none⟩)) next false (.slice A0 32 c0) pt ps b c R w) (hf : Fit m 2 1 3) (hlv : m.Live) (hn : n + 20 ≤ 900) (hptg : w0.heap.size ≤ pt) (hpsg : w0.heap.size ≤ ps) (hplg : w0.heap.size ≤ pl)
 (hlg : Blk w pl 193 (logC L 2 1 3 x.life x.base first)) (hN : QB L.kb w NA 32 nc nxt) (hP : Pgw w0 L.kb w A' c' 2 P) (hk : ∀ y ∈ P, y.k < 3) (hsm : ∀ y ∈ P, y.r.n ≤ 473) (hfi : first = 0) (hxl : x.life < 1000000) (hxb : x.base ≤ 1073741824) (hxg : x.gen < 1000000) :
 Calls Tryz.prog 51 #[.pointer (some ⟨pt, 0, none⟩), .slice NA 32 nc, .slice A' 2 c'] w fun e w' => e = .returned (.int .i64 0) ∧ MSt w0 L (m.turn x first nxt (P.map fun y => (y.k, y.r.l))) w' ∧ ∃ vx vk, Blk w' pt 65 (treeC L 2 1 3 vx vk false) := by
 have hk2 : 2 ≤ m.d.kept.length := by have := hf.s; rw [show sizeI 2 1 3 = 13 by decide] at this; omega
 have hw0 := h.ms.below.size
 obtain ⟨m1, hm1⟩ : ∃ m1, m1 = (m.rootPut (x.gen + 1) nxt).1 := ⟨_, rfl⟩
 have hlv1 : m1.Live := by rw [hm1]; exact (hlv.rootPut _ _).2
 have hok1 : m1.Ok (n + 3) := by rw [hm1]; exact h.ok.rootPut _ _
 have hf1 : Fit m1 2 1 3 := ⟨hf.g, by rw [hm1, rootPut_kept]; exact hf.s⟩
 obtain ⟨m2, hm2⟩ : ∃ m2, m2 = m1.walAppend 3 x.life x.base first (x.gen + 1) (P.map fun y => (y.k, y.r.l)) := ⟨_, rfl⟩
 obtain ⟨m3, hm3⟩ : ∃ m3, m3 = (m2.rootErase x.gen).1 := ⟨_, rfl⟩
 have hmt : m.turn x first nxt (P.map fun y => (y.k, y.r.l)) = m3 := by rw [hm3, hm2, hm1]; rfl
 rw [hmt]
 obtain ⟨W, hW⟩ : ∃ W, W = w.alloc (.cells #[.pointer (some ⟨pt, 0, none⟩)] 33) := ⟨_, rfl⟩
 have G0 : Hid (Gr w W) := by show Gr _ _; rw [hW]; exact Gr.alloc _ _
 have B0 : Hid (Blk W w.heap.size 33 [.pointer (some ⟨pt, 0, none⟩)]) := by show Blk _ _ _ _; rw [hW]; exact Blk.new w _ _
 have HW := Lib.hid hW
 have HGN := Lib.hid (treeGen_any (h.gr G0.out))
 have hz1 : (m.rootPut (x.gen + 1) nxt).2 = 0 := (hlv.rootPut _ _).1
 have HRP := Lib.hid (fun wr (g : Gr w wr) => rootPut_any (h.ms.mono g) h.ok (by omega) hk2 (x.gen + 1) (by omega) NA nc nxt (hN.mono g).b)
 unfold RetF at HRP
 rw [← hm1, hz1] at HRP
 have wg : IntKind.u64.wrap ((x.gen : Int) + 1) = (x.gen : Int) + 1 := IntWalk.u64_in ((x.gen : Int) + 1) (by omega)
 have hcast : ((x.gen + 1 : Nat) : Int) = (x.gen : Int) + 1 := by omega
 simp only [hcast] at HRP
 obtain ⟨q1, q2, q3⟩ := walAppend_all (l := 3) (life := x.life) (base := x.base) (first := first) (gen := x.gen + 1) (P.map fun y => (y.k, y.r.l)) hlv1 hok1
 have hPl : P.length = 2 := hP.pgw.s.1
 rw [← hm2, List.length_map, hPl] at q2
 rw [← hm2] at q1 q3
 have HCO := Lib.hid (fun (wr : World) (t : TrP w0 L m1 (n + 3) x (.pointer (some ⟨pl, 0, none⟩)) next false (.slice A0 32 c0) pt ps b c R wr) (hlg : Blk wr pl 193 (logC L 2 1 3 x.life x.base first)) (hP : Pgw w0 L.kb wr A' c' 2 P) =>
  storeCommit_any t.ms hf1 hlv1 hok1 (by omega) hxb first (x.gen + 1) (by omega) t.fx hlg hpsg hplg R t.fp (by decide) t.c2 t.c1 A' c' 2 P hP hk hsm (by rw [hfi]; decide) (by omega))
 rw [← hm2] at HCO
 simp only [hcast] at HCO
 have hz3 : (m2.rootErase x.gen).2 = 0 := (q1.rootErase _).1
 have HER := Lib.hid (fun (wr : World) (hms : MSt w0 L m2 wr) => rootErase_any hms q2 (by omega) (by rw [q3, hm1, rootPut_kept]; exact hk2) x.gen (by omega))
 unfold RetF at HER
 rw [← hm3, hz3] at HER
 have HH := Lib.hid h; have HLG := Lib.hid hlg; have HN := Lib.hid hN; have HP := Lib.hid hP
 have HOK1 := Lib.hid hok1
 clear hcast h hf hlv hlg hN hP hk hsm hlv1 hok1 hf1 hm1 hm2 hm3 hmt hz1 hz3 q1 q2 q3 hW hk2 hPl
 go_enter Tryz.func51, Tryz.ntmps51
 go_upto_region 1 with fail
 rw [← HW.out]
 have v0 := B0.out.cell 0
 go_wp2_with fail
 refine HGN.out.mono ?_
 rintro e wz ⟨rfl, hwz⟩
 subst hwz
 go_upto_region 2 with fail
 obtain ⟨W1, hW1⟩ : ∃ W1, W1 = W.alloc (.cells #[.int .u64 (x.gen : Int)] 43) := ⟨_, rfl⟩
 rw [← hW1]
 have G1 : Hid (Gr w W1) := G0.out.trans (by rw [hW1]; exact Gr.alloc _ _)
 have B1 : Hid (Blk W1 w.heap.size 33 [.pointer (some ⟨pt, 0, none⟩)]) := by show Blk _ _ _ _; rw [hW1]; exact B0.out.alloc _
 have U1 : Hid (Blk W1 W.heap.size 43 [.int .u64 (x.gen : Int)]) := by show Blk _ _ _ _; rw [hW1]; exact Blk.new W _ _
 clear hW1 v0
 generalize W.heap.size = pu at *
 refine UG.wrU (KQ L.kb) 129 (fun w w' h => h.1) (fun w w' b cs h hb => h.sec hb) (by kernel_rfl) [0, 1, 3, 7, 0, 16, 48, 112, 0, 256, 0, 2047, 4095] [.p 10, .q 0, .p 1, .p 2, .q 3, .q 4, .p 5, .p 6, .q 7, .q 8, .p 9, .t 11, .p 12] (by kernel_rfl) (trivial) ?_
 refine UG.wPe rfl rfl ?_
 apply Exists.intro
 refine ⟨fun wq => ?_, ?_⟩
 · unfold pLa
   go_simp
   first | exact rfl | exact ⟨rfl, rfl⟩
 go_simp
 refine UG.wQe rfl rfl ?_
 apply Exists.intro
 refine ⟨fun wq hq => ?_, ?_⟩
 · have v0 := (B1.out.mono ((Gr.drew _).trans hq)).cell 0
   unfold pLa
   go_simp
   first | exact rfl | exact ⟨rfl, rfl⟩
 go_simp
 iterate 2
  refine UG.wPe rfl rfl ?_
  apply Exists.intro
  refine ⟨fun wq => ?_, ?_⟩
  · unfold pLa
    go_simp
    first | exact rfl | exact ⟨rfl, rfl⟩
  go_simp
 refine UG.wQe rfl rfl ?_
 apply Exists.intro
 refine ⟨fun wq hq => ?_, ?_⟩
 · have s0 := (HH.out.gr (G1.out.trans ((Gr.drew _).trans hq))).ft.cell 0
   unfold pLa
   go_simp
   first | exact rfl | exact ⟨rfl, rfl⟩
 go_simp
 refine UG.wQe rfl rfl ?_
 apply Exists.intro
 refine ⟨fun wq hq => ?_, ?_⟩
 · have v0 := (B1.out.mono ((Gr.drew _).trans hq)).cell 0
   unfold pLa
   go_simp
   first | exact rfl | exact ⟨rfl, rfl⟩
 go_simp
 iterate 2
  refine UG.wPe rfl rfl ?_
  apply Exists.intro
  refine ⟨fun wq => ?_, ?_⟩
  · unfold pLa
    go_simp
    first | exact rfl | exact ⟨rfl, rfl⟩
  go_simp
 refine UG.wQe rfl rfl ?_
 apply Exists.intro
 refine ⟨fun wq hq => ?_, ?_⟩
 · obtain ⟨s1, s2, s3, s4, s5, s6⟩ := (HH.out.gr (G1.out.trans ((Gr.drew _).trans hq))).cells
   unfold pLa
   go_simp
   first | exact rfl | exact ⟨rfl, rfl⟩
 go_simp
 refine UG.wQe rfl rfl ?_
 apply Exists.intro
 refine ⟨fun wq hq => ?_, ?_⟩
 · have u0 := (U1.out.mono ((Gr.drew _).trans hq)).cell 0
   unfold pLa
   go_simp
   first | exact rfl | exact ⟨rfl, rfl⟩
 go_simp
 refine UG.wPe rfl rfl ?_
 apply Exists.intro
 refine ⟨fun wq => ?_, ?_⟩
 · unfold pLa
   go_simp
   first | exact rfl | exact ⟨rfl, rfl⟩
 go_simp
 refine UG.wpG_t rfl rfl ?_
 intro w3 g3 K hK
 go_simp
 go_at_call 32
 refine (HRP.out w3 (G1.out.trans ((Gr.drew _).trans g3))).mono ?_
 rintro e wn ⟨rfl, h4, k4⟩
 refine hK _ _ k4 ?_; have H4 := Lib.hid h4; have K4 : Hid (KQ L.kb W1 wn) := (KQ.gr ((Gr.drew W1).trans g3)).trans k4; clear g3 h4 k4 hK
 go_simp
 refine UG.wPe rfl rfl ?_
 apply Exists.intro
 refine ⟨fun wq => ?_, ?_⟩
 · unfold pLa
   go_simp
   first | exact rfl | exact ⟨rfl, rfl⟩
 go_simp
 refine UG.wNi ?_
 intro w5 g5
 have K5 : Hid (KQ L.kb W1 w5) := K4.out.trans (KQ.gr g5)
 have M5 := Lib.hid (H4.out.mono g5)
 clear g5
 have T5 := Lib.hid ((HH.out.gr G1.out).kq K5.out M5.out HOK1.out (by omega))
 have B5 := Lib.hid (K5.out.blk B1.out (by unfold tyM; decide) (fun e => absurd e (by decide)))
 have U5 := Lib.hid (K5.out.blk U1.out (by unfold tyM; decide) (fun e => absurd e (by decide)))
 have L5 := Lib.hid (K5.out.blk (HLG.out.mono G1.out) (by unfold tyM; decide) (fun e => absurd e (by decide)))
 have P5 := Lib.hid ((HP.out.mono G1.out).kx (KX.kq (S := fun _ => False) K5.out) M5.out.below (fun z s => s.elim))
 go_upto_region 5 with fail
 refine UG.wrU RtFa 27 (fun w w' h => h.1) (fun w w' b cs h hb => h.2 b cs hb) (by kernel_rfl) [0, 1, 3, 7, 0, 0, 32, 127, 0, 511] [.p 4, .q 0, .p 1, .p 2, .q 3, .q 5, .p 6, .t 7, .m 8 27 #[.int .i64 0], .s 9] (by kernel_rfl) (⟨⟨fun o ho ρ w => by cases ho; kernel_rfl, rfl⟩, trivial⟩) ?_
 refine UG.wPe rfl rfl ?_
 apply Exists.intro
 refine ⟨fun wq => ?_, ?_⟩
 · unfold pLa
   go_simp
   first | exact rfl | exact ⟨rfl, rfl⟩
 go_simp
 refine UG.wQe rfl rfl ?_
 apply Exists.intro
 refine ⟨fun wq hq => ?_, ?_⟩
 · have v0 := (B5.out.mono ((Gr.drew _).trans hq)).cell 0
   unfold pLa
   go_simp
   first | exact rfl | exact ⟨rfl, rfl⟩
 go_simp
 iterate 2
  refine UG.wPe rfl rfl ?_
  apply Exists.intro
  refine ⟨fun wq => ?_, ?_⟩
  · unfold pLa
    go_simp
    first | exact rfl | exact ⟨rfl, rfl⟩
  go_simp
 refine UG.wQe rfl rfl ?_
 apply Exists.intro
 refine ⟨fun wq hq => ?_, ?_⟩
 · obtain ⟨s1, s2, s3, s4, s5, s6⟩ := (T5.out.gr ((Gr.drew _).trans hq)).cells
   unfold pLa
   go_simp
   first | exact rfl | exact ⟨rfl, rfl⟩
 go_simp
 refine UG.wQe rfl rfl ?_
 apply Exists.intro
 refine ⟨fun wq hq => ?_, ?_⟩
 · have u0 := (U5.out.mono ((Gr.drew _).trans hq)).cell 0
   unfold pLa
   go_simp
   first | exact rfl | exact ⟨rfl, rfl⟩
 go_simp
 refine UG.wPe rfl rfl ?_
 apply Exists.intro
 refine ⟨fun wq => ?_, ?_⟩
 · unfold pLa
   go_simp
   first | exact rfl | exact ⟨rfl, rfl⟩
 go_simp
 refine UG.wpG_t rfl rfl ?_
 intro w6 g6 K hK
 go_simp
 go_at_call 121
 refine (HCO.out w6 (T5.out.gr ((Gr.drew _).trans g6)) (L5.out.mono ((Gr.drew _).trans g6)) (P5.out.mono ((Gr.drew _).trans g6))).mono ?_
 rintro e wn ⟨rfl, h7, s7, l7, _, k7⟩
 have T6 := Lib.hid (T5.out.gr ((Gr.drew w5).trans g6)); have L6 := Lib.hid (L5.out.mono ((Gr.drew w5).trans g6)); have hS6 : Hid (∀ z, (z = ps ∨ z = pl ∨ z = b) → ∃ t cs, Blk w6 z t cs ∧ t ≠ 27 ∧ t ≠ 33 ∧ t ≠ 43 ∧ t ≠ 65) := (fun z e => by { rcases e with e | e | e; { subst e; exact ⟨_, _, T6.out.fx, by decide, by decide, by decide, by decide⟩ }; { subst e; exact ⟨_, _, L6.out, by decide, by decide, by decide, by decide⟩ }; { subst e; obtain ⟨cs, z2⟩ := T6.out.fp.o.blk_at (b := z) rfl; exact ⟨_, _, z2, by decide, by decide, by decide, by decide⟩ } }); refine hK _ _ ⟨k7.size, fun b' cs hb => k7.blk hb (by unfold tyM; decide) (fun e => absurd e (by decide)) (fun e => by { obtain ⟨t, cs', z2, h1, _⟩ := hS6.out _ e; exact h1 (bTy hb z2).symm })⟩ ?_; have H7 := Lib.hid h7; have K7 := Lib.hid k7; have B6 := Lib.hid (B5.out.mono ((Gr.drew w5).trans g6)); have U6 := Lib.hid (U5.out.mono ((Gr.drew w5).trans g6)); clear g6 h7 s7 l7 k7 hK
 go_simp
 refine UG.wpG_m rfl rfl ?_
 intro w8 pf g8 hpf hblk hI
 have F8 := Lib.hid hblk
 have H8 := Lib.hid (H7.out.mono g8)
 have G8 := Lib.hid g8
 have hpfw : w5.heap.size ≤ pf := hpf
 clear hI hblk g8 hpf
 go_simp
 refine UG.wpG_s rfl rfl ?_
 intro w9 g9 K hK
 have F9 := Lib.hid (F8.out.mono g9)
 have H9 := Lib.hid (H8.out.mono g9)
 have G9 := Lib.hid (G8.out.trans g9)
 have f0 := Blk.free F9.out 0
 have x0 := F9.out.cell 0
 clear g9
 go_simp
 refine hK _ _ ?_
 clear hK f0 x0
 go_simp
 refine UG.wNi ?_
 intro wa ga
 have nS : ∀ {g : Nat} {t : TypeId} {cs : List Value}, Blk w6 g t cs → (t = 33 ∨ t = 43 ∨ t = 65) → ¬ (g = ps ∨ g = pl ∨ g = b) := fun hg ht q => by
  obtain ⟨t', cs', z2, _, h2, h3, h4⟩ := hS6.out _ q
  have := bTy hg z2
  subst this
  rcases ht with e | e | e
  · exact h2 e
  · exact h3 e
  · exact h4 e
 have B9 := (K7.out.blk B6.out (by unfold tyM; decide) (fun e => absurd e (by decide)) (nS B6.out (.inl rfl))).mono G9.out
 have U9 := (K7.out.blk U6.out (by unfold tyM; decide) (fun e => absurd e (by decide)) (nS U6.out (.inr (.inl rfl)))).mono G9.out
 have T9 := (K7.out.blk T6.out.ft (by unfold tyM; decide) (fun e => absurd e (by decide)) (nS T6.out.ft (.inr (.inr rfl)))).mono G9.out
 have Ta : Tch (fun z => z = pf) w9 wa := (Tch.set (S := fun z => z = pf) ⟨pf, 0, none⟩ _ rfl).trans (Tch.gr ga)
 have nf : ∀ {g : Nat} {t : TypeId} {cs : List Value}, Blk w9 g t cs → t ≠ 27 → ¬ g = pf := fun hg hne e => by
  rw [e] at hg
  exact hne (bTy hg F9.out)
 have Fa : Hid (Blk wa pf 27 [.int .i64 0]) := Blk.mono (w := w9.setCell ⟨pf, 0, none⟩ (.int .i64 0)) (F9.out.set 0 (.int .i64 0)) ga
 have Ba := Lib.hid (B9.tch Ta (nf B9 (by decide)))
 have Ua := Lib.hid (U9.tch Ta (nf U9 (by decide)))
 have FTa := Lib.hid (T9.tch Ta (nf T9 (by decide)))
 have Ha : Hid (MSt w0 L m2 wa) := H9.out.off Ta (fun z e => by have := M5.out.below.size; omega) (fun z e => e ▸ ⟨_, _, F9.out, by unfold tyA tyM; decide⟩)
 clear B9 U9 T9 Ta nf nS ga
 have f0 := Fa.out.cell 0
 have v0 := Ba.out.cell 0
 have t6 := FTa.out.cell 6
 have fz6 := Blk.free FTa.out 6
 go_upto_region 11 with fail
 obtain ⟨wb, hwb⟩ : ∃ wb, wb = wa.setCell ⟨pt, 6, none⟩ (.slice NA 32 nc) := ⟨_, rfl⟩
 rw [← hwb]
 have Tb : Tch (fun z => z = pt) wa wb := by rw [hwb]; exact Tch.set ⟨pt, 6, none⟩ _ rfl
 have FTb : Hid (Blk wb pt 65 (treeC L 2 1 3 (.pointer (some ⟨ps, 0, none⟩)) (.slice NA 32 nc) false)) := by show Blk _ _ _ _; rw [hwb]; exact FTa.out.set 6 _
 have np : ∀ {g : Nat} {t : TypeId} {cs : List Value}, Blk wa g t cs → t ≠ 65 → ¬ g = pt := fun hg hne e => by
  rw [e] at hg
  exact hne (bTy hg FTa.out)
 have Bb := Lib.hid (Ba.out.tch Tb (np Ba.out (by decide)))
 have Ub := Lib.hid (Ua.out.tch Tb (np Ua.out (by decide)))
 have Hb : Hid (MSt w0 L m2 wb) := Ha.out.off Tb (fun z e => e ▸ hptg) (fun z e => e ▸ ⟨_, _, FTa.out, tyA_tree⟩)
 clear hwb Tb np f0 v0 t6 fz6
 refine UG.wrU (KQ L.kb) 129 (fun w w' h => h.1) (fun w w' b cs h hb => h.sec hb) (by kernel_rfl) [0, 1, 3, 7, 0, 31, 63] [.q 0, .p 1, .p 2, .q 3, .q 4, .t 5, .p 6] (by kernel_rfl) (trivial) ?_
 refine UG.wQe rfl rfl ?_
 apply Exists.intro
 refine ⟨fun wq hq => ?_, ?_⟩
 · have v0 := (Bb.out.mono ((Gr.drew _).trans hq)).cell 0
   unfold pLa
   go_simp
   first | exact rfl | exact ⟨rfl, rfl⟩
 go_simp
 iterate 2
  refine UG.wPe rfl rfl ?_
  apply Exists.intro
  refine ⟨fun wq => ?_, ?_⟩
  · unfold pLa
    go_simp
    first | exact rfl | exact ⟨rfl, rfl⟩
  go_simp
 refine UG.wQe rfl rfl ?_
 apply Exists.intro
 refine ⟨fun wq hq => ?_, ?_⟩
 · have s0 := (FTb.out.mono ((Gr.drew _).trans hq)).cell 0
   unfold pLa
   go_simp
   first | exact rfl | exact ⟨rfl, rfl⟩
 go_simp
 refine UG.wQe rfl rfl ?_
 apply Exists.intro
 refine ⟨fun wq hq => ?_, ?_⟩
 · have u0 := (Ub.out.mono ((Gr.drew _).trans hq)).cell 0
   unfold pLa
   go_simp
   first | exact rfl | exact ⟨rfl, rfl⟩
 go_simp
 refine UG.wpG_t rfl rfl ?_
 intro wc gc K hK
 go_simp
 go_at_call 34
 refine (HER.out wc (Hb.out.mono ((Gr.drew _).trans gc))).mono ?_
 rintro e wn ⟨rfl, h4, k4⟩
 refine hK _ _ k4 ?_; have H4 := Lib.hid h4; have FT4 := Lib.hid (k4.blk (FTb.out.mono ((Gr.drew wb).trans gc)) (by unfold tyM; decide) (fun e => absurd e (by decide))); clear gc h4 k4 hK
 go_simp
 refine UG.wPe rfl rfl ?_
 apply Exists.intro
 refine ⟨fun wq => ?_, ?_⟩
 · unfold pLa
   go_simp
   first | exact rfl | exact ⟨rfl, rfl⟩
 go_simp
 refine UG.wNi ?_
 intro wd gd
 have Hd := Lib.hid (H4.out.mono gd); have FTd := Lib.hid (FT4.out.mono gd)
 clear gd
 go_wp2_with fail
 go_ret
 exact ⟨rfl, Hd.out, _, _, FTd.out⟩
end
end
section
open Go.RowKit Go.Maps
section
variable {w0 w w' : World} {L : Pl} {m m' : Mc} {n n' : Nat} {x : Spr} {vl vk : Value} {next : Nat} {due : Bool} {pt ps b c : Nat} {R : List BRow}
def Mc.apply (m : Mc) (x : Spr) : Mc := ((((m.draw).draw).seal (m.draw).key [7]).seal m.key (m.draw).key).turn x 0 m.key [(2, lfB m.draw), (0, ndB m.draw m.key)]
theorem Sl.keepN {w w' : World} {A : Option Addr} {n c s : Nat} {xs : List Value} (h : Sl w A n c s xs) (hp : ∀ b o, A = some ⟨b, o, none⟩ → w'.heap[b]? = w.heap[b]?) : Sl w' A n c s xs := by
 obtain ⟨h1, h2, h3, h4⟩ := h
 refine ⟨h1, h2, h3, fun hn => ?_⟩
 obtain ⟨b, o, e, hc⟩ := h4 hn
 exact ⟨b, o, e, fun j u hu => (World.cell?_of_block (w := w) (a := ⟨b, o + j, none⟩) (hp b o e)).trans (hc j u hu)⟩
theorem sealB_len (T : List Nd) (key text : List UInt8) : (sealB T key text).length = text.length + 48 := padL_length _ _
theorem ChM.keep {mb : Nat} {A : Option Addr} {cc : Nat} (h : ChM w mb A cc) (e : w'.heap[mb]? = w.heap[mb]?) : ChM w' mb A cc := by
 obtain ⟨es, clock, hb, Ft, hs, hD⟩ := h
 exact ⟨es, clock, e.trans hb, Ft, hs, hD⟩
set_option maxRecDepth 100000 in
set_option maxHeartbeats 8000000 in
theorem treeApply_any {pl : Nat} {A0 VA : Option Addr} {c0 vc bl : Nat} (h : TrP w0 L m n x (.pointer (some ⟨pl, 0, none⟩)) next false (.slice A0 32 c0) pt ps b c R w) (hf : Fit m 2 1 3) (hlv : m.Live) (hn : n + 60 ≤ 900) (hT : U8 w0) (hptg : w0.heap.size ≤ pt) (hpsg : w0.heap.size ≤ ps) (hplg : w0.heap.size ≤ pl)
 (hlg : Blk w pl 193 (logC L 2 1 3 x.life x.base 0)) (hxl : x.life < 1000000) (hxb : x.base ≤ 1073741824) (hxg : x.gen < 1000000) (r0 : BRow) (hr0 : R[0]? = some r0) (hl0 : r0.l = []) (hl : Blk w bl 47 (chgC VA vc).toList) (hv : QB L.kb w VA 1 vc [7]) :
 Calls Tryz.prog 12 #[.pointer (some ⟨pt, 0, none⟩), .slice (some ⟨bl, 0, none⟩) 1 1] w fun e w' => e = .returned (.int .i64 0) ∧ MSt w0 L (m.apply x) w' := by
 have hw0 := h.ms.below.size
 have HRY := Lib.hid (treeReady_any h)
 have HAS := Lib.hid (treeAsked_any h (hT.mono h.ms.below) bl VA vc hl)
 have HGN := Lib.hid (fun wr (g : Gr w wr) => treeGen_any (h.gr g))
 have HKC := Lib.hid keysC_any
 have HCC := Lib.hid (fun mb Bm W h1 h2 => collectC_any mb Bm VA vc W h1 h2)
 have HTO := Lib.hid (fun B k W (hb : Is W B 1 k [1]) => touched_any 2 1 3 B 1 k [1] W hb (by decide))
 rw [show touR 2 1 3 [1] (pagesI 2 1 3).toNat = [0, 2] by decide +kernel] at HTO
 have HDR := Lib.hid (fun wr (g : Gr w wr) => h.ms.draw4 g h.ok h.n9)
 have tg : decide ((4611686018427387904 : Int) ≤ (x.gen : Int)) = false := decide_eq_false (by omega)
 have HH := Lib.hid h; have HLG := Lib.hid hlg; have HV := Lib.hid hv
 obtain ⟨mA, hmA⟩ : ∃ mA, mA = m.apply x := ⟨_, rfl⟩
 rw [← hmA]
 have HMA := Lib.hid hmA
 have HND := Lib.hid (fun (wr : World) (pw mb tc : Nat) (TA : Option Addr) (KA NA : Option Addr) (kc nc : Nat) (t : TrP w0 L m.draw (n + 1) x (.pointer (some ⟨pl, 0, none⟩)) next false (.slice A0 32 c0) pt ps b c R wr) (hge : w0.heap.size ≤ pw) (hw : Blk wr pw 96 (workC pt mb TA tc (.slice none 0 0))) (ht : Is wr TA 2 tc [0, 2]) (hm : ChM wr mb VA vc) (hv : QB L.kb wr VA 1 vc [7]) (hN : QB L.kb wr NA 32 nc m.key) => workNode_any t r0 hr0 hl0 (by omega) hT hge hw ht hm hv KA NA kc nc m.key hN)
 clear h hlg hv hl hr0 hl0 hmA hT
 go_enter Tryz.func12, Tryz.ntmps12
 go_wp2_with fail
 refine HRY.out.mono ?_
 rintro e wd ⟨rfl, hwd⟩
 subst hwd
 go_wp2_with fail
 refine HAS.out.mono ?_
 rintro e w1 ⟨mb, rfl, m1, g1, hmb⟩
 have G1 := Lib.hid g1; have M1 := Lib.hid m1
 clear m1 g1
 go_wp2_with fail
 refine (HGN.out w1 G1.out).mono ?_
 rintro e wd ⟨rfl, hwd⟩
 subst hwd
 go_upto_region 9 with fail
 refine wrG (by kernel_rfl) [0, 0, 0, 4, 12, 28, 0, 64, 192, 508, 1023, 2047, 4095] [.p 0, .p 1, .p 2, .p 3, .p 4, .p 6, .q 5, .c 7, .c 8, .c 9, .p 10, .c 11, .p 12] (by kernel_rfl) (trivial) ?_
 iterate 6
  refine wPe rfl rfl ?_
  apply Exists.intro
  refine ⟨fun wq => ?_, ?_⟩
  · unfold pLa
    go_simp
    first | exact rfl | exact ⟨rfl, rfl⟩
  go_simp
 refine wQe rfl rfl ?_
 apply Exists.intro
 refine ⟨fun wq hq => ?_, ?_⟩
 · obtain ⟨s1, s2, s3, s4, s5, s6⟩ := (HH.out.gr (G1.out.trans ((Gr.drew _).trans hq))).cells
   unfold pLa
   go_simp
   first | exact rfl | exact ⟨rfl, rfl⟩
 go_simp
 refine wpG_c rfl rfl ?_
 intro w8 g8 K hK
 go_simp
 go_at_call 48
 refine (HKC.out mb w8).mono ?_
 rintro e wn ⟨rfl, e9⟩
 have g9 : Gr w8 wn := by { rw [e9]; exact Gr.alloc _ _ }; refine hK _ _ g9 ?_; have K9 : Hid (Blk wn w8.heap.size 85 [.map (some mb)]) := by { show Blk _ _ _ _; rw [e9]; exact Blk.new w8 _ #[.map (some mb)] }; have G79 := Lib.hid (((Gr.drew w1).trans g8).trans g9); clear g8 g9 e9 hK
 go_simp
 refine wpG_c rfl rfl ?_
 intro wa ga K hK
 go_simp
 go_at_call 47
 refine (HCC.out mb w8.heap.size wa (K9.out.mono ga) (M1.out.mono (G79.out.trans ga))).mono ?_
 rintro e wn ⟨vb, rfl, ob⟩
 refine hK _ _ ob.below ?_; obtain ⟨Ab, cb, rfl, sb⟩ := ob.slice; have Gb := Lib.hid ((G79.out.trans ga).trans (show Gr wa wn from ob.below)); have Sb := Lib.hid (show Is wn Ab 1 cb [1] from sb); clear ga ob sb hK
 go_simp
 refine wpG_c rfl rfl ?_
 intro wc gc K hK
 go_simp
 go_at_call 46
 refine (HTO.out Ab cb wc (Sb.out.mono gc)).mono ?_
 rintro e wn ⟨vd, rfl, od⟩
 refine hK _ _ od.below ?_; obtain ⟨Ad, cd, rfl, sd⟩ := od.slice; have Gc := Lib.hid (Gb.out.trans gc); have Gd := Lib.hid ((Gb.out.trans gc).trans (show Gr wc wn from od.below)); have Od := Lib.hid od; clear gc od sd hK
 go_simp
 refine wPe rfl rfl ?_
 apply Exists.intro
 refine ⟨fun wq => ?_, ?_⟩
 · unfold pLa
   go_simp
   first | exact rfl | exact ⟨rfl, rfl⟩
 go_simp
 refine wpG_c rfl rfl ?_
 intro we ge K hK
 go_simp
 refine hK _ _ (Gr.alloc _ _) ?_
 obtain ⟨w6, hw6⟩ : ∃ w6, w6 = we.alloc (.cells #[.pointer (some ⟨pt, 0, none⟩), .map (some mb), .slice Ad 2 cd, .slice none 0 0] 96) := ⟨_, rfl⟩
 rw [← hw6]
 have g56 : Gr we w6 := by rw [hw6]; exact Gr.alloc _ _
 have W6 : Hid (Blk w6 we.heap.size 96 (workC pt mb Ad cd (.slice none 0 0))) := by show Blk _ _ _ _; rw [hw6]; exact Blk.new we _ #[.pointer (some ⟨pt, 0, none⟩), .map (some mb), .slice Ad 2 cd, .slice none 0 0]
 have G16 : Hid (Gr w1 w6) := (Gd.out.trans ge).trans g56
 have O6 := Lib.hid (Od.out.mono (ge.trans g56))
 have hpw : w.heap.size ≤ we.heap.size := (G1.out.trans (Gd.out.trans ge)).size
 clear hK ge g56 hw6
 generalize we.heap.size = pw at *
 go_simp
 refine wPe rfl rfl ?_
 apply Exists.intro
 refine ⟨fun wq => ?_, ?_⟩
 · unfold pLa
   go_simp
   first | exact rfl | exact ⟨rfl, rfl⟩
 go_simp
 refine wNi ?_
 intro wf gf
 have Gf := Lib.hid (G1.out.trans (G16.out.trans gf))
 have Wf := Lib.hid (W6.out.mono gf)
 have Of := Lib.hid (O6.out.mono gf)
 have Mf := Lib.hid (M1.out.mono (G16.out.trans gf))
 have Gwc := Lib.hid (G1.out.trans Gc.out)
 clear gf
 obtain ⟨s1, s2, s3, s4, s5, s6⟩ := (HH.out.gr Gf.out).cells
 have HDf := Lib.hid (HDR.out wf Gf.out)
 go_wp2_with fail
 refine HDf.out.mono ?_
 rintro e wg ⟨NA, nc, rfl, og, mg, kg, nk⟩
 have Tg := Lib.hid ((HH.out.gr Gf.out).kq kg mg HH.out.ok.draw (by omega))
 have Wg := Lib.hid (kg.blk Wf.out (by unfold tyM; decide) (fun e => absurd e (by decide)))
 have Vg := Lib.hid ((HV.out.mono Gf.out).kq kg)
 have Ng := Lib.hid (QB.own (kb := L.kb) og)
 have hmbl : mb < wf.heap.size := World.ownsMap.lt Mf.out
 have Mg : Hid (ChM wg mb VA vc) := Mf.out.keep (nk mb hmb hmbl)
 have Ig : Hid (Is wg Ad 2 cd [0, 2]) := by
  obtain ⟨_, _, hv, sl⟩ := Of.out.slice
  injection hv with e1 _ e2
  subst e1 e2
  refine Sl.keepN sl (fun b' o' e => nk b' (Nat.le_trans Gwc.out.size (Of.out.ge (by rw [e]; rfl))) ?_)
  obtain ⟨cs, z⟩ := Of.out.blk_at (b := b') (by rw [e]; rfl)
  exact z.lt
 have Lg := Lib.hid (kg.blk (HLG.out.mono Gf.out) (by unfold tyM; decide) (fun e => absurd e (by decide)))
 clear og mg kg nk s1 s2 s3 s4 s5 s6 HDf
 have HNg := Lib.hid (HND.out wg pw mb cd Ad A0 NA c0 nc Tg.out (by omega) Wg.out Ig.out Mg.out Vg.out Ng.out)
 obtain ⟨s1, s2, s3, s4, s5, s6⟩ := Tg.out.cells
 go_wp2_with fail
 refine HNg.out.mono ?_
 rintro e wh ⟨rfl, fh⟩
 obtain ⟨A', c', BA, bc, DA, dc, hwk, hpw2⟩ := fh.wk
 have hlfB : (lfB m.draw).length ≤ 473 ∧ (ndB m.draw m.key).length ≤ 473 := by
  constructor
  · unfold lfB
    rw [List.length_append, fLn, fLn, sealB_len]
    decide
  · unfold ndB
    have h1 := rowsE_len [[], sealB (((m.draw).draw).seal (m.draw).key [7]).T m.key (m.draw).key] (fun y hy => by
     rcases List.mem_cons.1 hy with q | hy
     · rw [q]; exact Nat.zero_le _
     · rw [List.mem_singleton.1 hy, sealB_len, key_len]; decide)
    exact Nat.le_trans h1 (show (2 : Nat) * 82 ≤ 473 by decide)
 have HTU := Lib.hid (treeTurn_any (x := x) fh.tp ⟨hf.g, hf.s⟩ ⟨hlv.d, hlv.f⟩ (by omega) hptg hpsg hplg (fh.kx.blk Lg.out (by unfold tyM; decide) (fun e => absurd e (by decide)) (fun e => by have := Wg.out; rw [← e] at this; exact absurd (bTy this Lg.out) (by decide))) (Ng.out.kx fh.kx (fun z e => by subst e; exact ⟨_, _, Wg.out, by unfold tyB; decide⟩)) hpw2 (fun y hy => by
  rcases List.mem_cons.1 hy with q | hy
  · rw [q]; exact (show (2 : Nat) < 3 by decide)
  · rw [List.mem_singleton.1 hy]; exact (show (0 : Nat) < 3 by decide)) (fun y hy => by
  rcases List.mem_cons.1 hy with q | hy
  · rw [q]; exact hlfB.1
  · rw [List.mem_singleton.1 hy]; exact hlfB.2) rfl hxl hxb hxg)
 have hmm : (((((m.draw).draw).seal (m.draw).key [7]).seal m.key (m.draw).key).turn x 0 m.key ([(⟨2, ⟨BA, (lfB m.draw).length, bc, lfB m.draw⟩⟩ : PRow), ⟨0, ⟨DA, (ndB m.draw m.key).length, dc, ndB m.draw m.key⟩⟩].map fun y => (y.k, y.r.l))) = mA := by rw [HMA.out]; rfl
 rw [hmm] at HTU
 have k3 := hwk.cell 3
 clear fh hwk hpw2 hlfB hmm s1 s2 s3 s4 s5 s6
 go_wp2_with fail
 refine HTU.out.mono ?_
 rintro e wi ⟨rfl, hi, vx, vk', fi⟩
 have Hi := Lib.hid hi; have Fi := Lib.hid fi
 have HTL := Lib.hid (treeTold_any (L := L) fi)
 clear hi fi k3
 go_wp2_with fail
 refine HTL.out.mono ?_
 rintro e wj ⟨rfl, fj, tj⟩
 have Hj : Hid (MSt w0 L mA wj) := Hi.out.off tj (fun z e => e ▸ hptg) (fun z e => e ▸ ⟨_, _, Fi.out, tyA_tree⟩)
 clear fj tj
 go_wp2_with fail
 go_ret
 exact ⟨rfl, Hj.out⟩
end
end
section
open Go.RowKit
theorem av4_eq : av0.treeFormat 2 1 3 3 = av4 := rfl
theorem av11_eq : av4.apply ⟨1, 0, 0⟩ = av11 := rfl
theorem av_geo : Geo 2 1 3 := ⟨by decide⟩
theorem av0_ok : av0.Ok 0 := ⟨Nat.le_refl _, Nat.le_refl _, Nat.le_refl _, by decide, by decide, by decide, by decide, fun x h => absurd h (by simp [av0])⟩
theorem av0_live : av0.Live := ⟨rfl, rfl⟩
theorem av0_fit : Fit av0 2 1 3 := ⟨av_geo, by decide⟩
theorem av3_ok : av3.Ok 6 := (((show av1.Ok 1 from av0_ok.draw).rootPut 0 avK0).rootErase 1)
theorem av3_live : av3.Live := ((show av1.Live from av0_live.draw).rootPut 0 avK0).2.rootErase 1 |>.2
theorem av4_live : av4.Live := av3_live.format av3_ok 2 1 3 3
theorem av4_ok : av4.Ok 40 := ((Mc.Ok.wipe (av3_live.clear).2 av3_ok.clear 3).begin 2 1 3 ⟨1, 0, 0⟩ (List.replicate 3 [])).le (by decide)
set_option maxRecDepth 100000 in
theorem av4_fit : Fit av4 2 1 3 := ⟨av_geo, by decide +kernel⟩
theorem av8_ok : av8.Ok 48 := by
 have h1 : av6.Ok 42 := (show av5.Ok 41 from av4_ok.draw).draw
 have h2 : av7.Ok 45 := h1.seal (by rw [show avK2.length = 32 from avK_len.2.2.1]; decide) (by decide)
 exact h2.seal (by rw [show avK1.length = 32 from avK_len.2.1]; decide) (by rw [show avK2.length = 32 from avK_len.2.2.1]; decide)
theorem av8_live : av8.Live := ⟨av4_live.d, av4_live.f⟩
theorem av10_all : av10.Live ∧ av10.Ok 60 := by
 have h := walAppend_all (l := 3) (life := 1) (base := 0) (first := 0) (gen := 1) avP (av8_live.rootPut 1 avK1).2 (av8_ok.rootPut 1 avK1)
 exact ⟨h.1, h.2.1.le (by decide)⟩
theorem av11_ok : av11.Ok 62 := av10_all.2.rootErase 0
theorem av11_live : av11.Live := (av10_all.1.rootErase 0).2
set_option maxRecDepth 100000 in
theorem av11_fit : Fit av11 2 1 3 := ⟨av_geo, by decide +kernel⟩
set_option maxRecDepth 100000 in
theorem av11_pend : av11.d.pend = [] := by decide +kernel
set_option maxRecDepth 100000 in
theorem av11_super : superR av11.S 2 1 3 av11.d.kept = some ⟨1, 0, 0⟩ := by
 have h := av_super
 cases hq : superR av11.S 2 1 3 av11.d.kept with
 | none => rw [hq] at h; exact absurd h (by simp)
 | some x =>
  rw [hq] at h
  simp only [Option.map_some, Option.some.injEq, Prod.mk.injEq] at h
  obtain ⟨x1, x2, x3⟩ := x
  simp only at h
  obtain ⟨rfl, rfl, rfl⟩ := h
  rfl
theorem av11_pg (k : Nat) (hk : k < 3) : pgIs av11 2 1 3 1 k = true ∧ (pgR av11 2 1 3 1 k).1.body = [] := by
 have h := List.all_eq_true.1 av_pages k (List.mem_range.2 hk)
 rw [Bool.and_eq_true] at h
 exact ⟨h.1, of_decide_eq_true h.2⟩
theorem av11_settle : av11.settle 1 = ((av11, 0), avK1) := by
 obtain ⟨h1, h2, h3⟩ := av_settle
 unfold Mc.settle at h1 h2 ⊢
 split at h1
 · rename_i e; rw [e] at h2; exact absurd h2 (by decide)
 · rename_i key e
   rw [if_pos (show av11.d.kept.getD ((1 ^^^ 1) % 2) [] = blankL from h3)] at h1
   rw [if_pos (show av11.d.kept.getD ((1 ^^^ 1) % 2) [] = blankL from h3)]
   rw [show key = avK1 from h1]
def secIs (x : Sec) (k : Nat) (y : Sec) : Bool := decide (k = 0) && decide (x.kind = y.kind) && decide (x.life = y.life) && decide (x.seq = y.seq) && decide (x.gen = y.gen) && decide (x.body = y.body)
theorem secIs_eq {r : Sec × Nat} {y : Sec} (h : secIs r.1 r.2 y = true) : r = (y, 0) := by
 obtain ⟨⟨k1, k2, k3, k4, k5⟩, k6⟩ := r
 obtain ⟨j1, j2, j3, j4, j5⟩ := y
 simp only [secIs, Bool.and_eq_true, decide_eq_true_eq] at h
 obtain ⟨⟨⟨⟨⟨rfl, rfl⟩, rfl⟩, rfl⟩, rfl⟩, rfl⟩ := h
 rfl
set_option maxRecDepth 100000 in
theorem av_wal0 : secIs (walR av11 3 0 0).1 (walR av11 3 0 0).2 (walSec 4 1 0 0 1 2 avB2) = true := by decide +kernel
set_option maxRecDepth 100000 in
theorem av_wal1 : secIs (walR av11 3 0 1).1 (walR av11 3 0 1).2 (walSec 4 1 0 1 1 0 avB0) = true := by decide +kernel
set_option maxRecDepth 100000 in
theorem av_wal2 : secIs (walR av11 3 0 2).1 (walR av11 3 0 2).2 (walSec 5 1 0 2 1 2 []) = true := by decide +kernel
theorem av11_txn : TxnIs av11 2 1 3 1 0 1 avP := by
 refine ⟨by decide, by decide, fun k p hp => ?_, secIs_eq av_wal2⟩
 match k, hp with
 | 0, hp =>
  rw [← (Option.some.inj (show some ((2 : Nat), avB2) = some p from hp))]
  exact ⟨secIs_eq av_wal0, by decide, by show avB2.length ≤ 473; rw [avK_len.2.2.2.2.2.1]; decide⟩
 | 1, hp =>
  rw [← (Option.some.inj (show some ((0 : Nat), avB0) = some p from hp))]
  exact ⟨secIs_eq av_wal1, by decide, by show avB0.length ≤ 473; rw [avK_len.2.2.2.2.2.2]; decide⟩
 | k + 2, hp => exact absurd (show (none : Option (Nat × List UInt8)) = some p from hp) (by simp)
theorem av_right : rightL [97] = true := by decide +kernel
theorem av11_E : MacE av11 62 ⟨1, 0, 0⟩ 1 avP avQ [97] avS1 avS2 avK1 avK2 [7] := by
 refine ⟨av11_fit, av11_live, av11_ok, by decide, av11_pend, av11_super, by decide, by decide, by decide, fun k hk => (av11_pg k hk).1, av11_txn, ?_, rfl, av11_settle, avK_len.2.1, by decide, by decide, av_right, avK_len.2.2.2.2.1, by rw [avK_len.2.2.2.1]; decide, by rw [avK_len.2.2.2.1]; decide, avK_len.2.2.1, av_open.1, av_open.2⟩
 have e : (List.range 3).map (fun i => (pgR av11 2 1 3 1 i).1.body) = [[], [], []] := by
  rw [show List.range 3 = [0, 1, 2] by decide, List.map_cons, List.map_cons, List.map_cons, List.map_nil, (av11_pg 0 (by decide)).2, (av11_pg 1 (by decide)).2, (av11_pg 2 (by decide)).2]
 rw [e]
 rfl
end
end Go.Proofs.YtdkmlmbehlooiaaGreatDoor
