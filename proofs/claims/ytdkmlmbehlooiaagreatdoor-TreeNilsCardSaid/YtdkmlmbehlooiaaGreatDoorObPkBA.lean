/- Own texts, one behind the other. No condition. -/
import Derived.Test.YtdkmlmbehlooiaaGreatDoorObPkAY
import Derived.Test.YtdkmlmbehlooiaaGreatDoorObPkAZ
set_option linter.unusedVariables false
set_option linter.unusedSimpArgs false
namespace Go.Proofs.YtdkmlmbehlooiaaGreatDoor
section
open Go.RowKit Go.Shelf
attribute [local go_sem] Oper.semAt_some
def pgThere (life n : Nat) (X : Sec) : Bool := decide (X.kind = 3 ∧ X.life = life ∧ X.seq = n ∧ X.gen = 0)
section
variable {w0 w w' : World} {L : Pl} {m : Mc} {n : Nat} {a d l : Int}
set_option maxRecDepth 100000 in
set_option maxHeartbeats 1000000 in
theorem there_snap (pa k life : Nat) (X : Sec) (A : Option Addr) (c : Nat) (w : World) (h1 : Blk w pa 171 [.pointer (some ⟨L.dp, 0, none⟩), .pointer (some ⟨L.p, 0, none⟩), .int .i64 a, .int .i64 d, .int .i64 l, .int .u64 (life : Int)]) :
 Calls Tryz.prog 196 #[.int .i64 (k : Int), .agg #[.int .i64 (X.kind : Int), .int .u64 (X.life : Int), .int .i64 (X.seq : Int), .int .u64 (X.gen : Int), .slice A X.body.length c], .pointer (some ⟨pa, 0, none⟩)] w fun e w' => e = .returned (.bool (pgThere life k X)) ∧ Gr w w' := by
 have b2 := h1.alloc (.cells #[.int .i64 (X.kind : Int), .int .u64 (X.life : Int), .int .i64 (X.seq : Int), .int .u64 (X.gen : Int), .slice A X.body.length c] 129)
 have c3 := b2.cell 3
 have c3' := h1.cell 3
 have c5 := b2.cell 5
 have c5' := h1.cell 5
 have G0 : Hid (Gr w (w.alloc (.cells #[.int .i64 (X.kind : Int), .int .u64 (X.life : Int), .int .i64 (X.seq : Int), .int .u64 (X.gen : Int), .slice A X.body.length c] 129))) := Gr.alloc _ _
 clear b2 h1
 obtain ⟨R, hR⟩ : ∃ R, R = pgThere life k X := ⟨_, rfl⟩
 rw [← hR]
 unfold pgThere at hR
 by_cases q1 : X.kind = 3
 case neg =>
  have t : ((X.kind : Int) == 3) = false := by rw [beq_eq_false_iff_ne]; omega
  have hr : R = false := by rw [hR, decide_eq_false_iff_not]; exact fun q => q1 q.1
  subst hr
  clear q1 hR
  go_enter Tryz.func196, Tryz.ntmps196
  go_wp2_with fail
  go_ret
  exact ⟨rfl, G0.out⟩
 have t1 : ((X.kind : Int) == 3) = true := by rw [beq_iff_eq]; omega
 by_cases q2 : X.life = life
 case neg =>
  have t : ((X.life : Int) == (life : Int)) = false := by rw [beq_eq_false_iff_ne]; omega
  have hr : R = false := by rw [hR, decide_eq_false_iff_not]; exact fun q => q2 q.2.1
  subst hr
  clear q1 q2 hR
  go_enter Tryz.func196, Tryz.ntmps196
  go_wp2_with fail
  go_ret
  exact ⟨rfl, G0.out⟩
 have t2 : ((X.life : Int) == (life : Int)) = true := by rw [beq_iff_eq]; omega
 by_cases q3 : X.seq = k
 case neg =>
  have t : ((X.seq : Int) == (k : Int)) = false := by rw [beq_eq_false_iff_ne]; omega
  have hr : R = false := by rw [hR, decide_eq_false_iff_not]; exact fun q => q3 q.2.2.1
  subst hr
  clear q1 q2 q3 hR
  go_enter Tryz.func196, Tryz.ntmps196
  go_wp2_with fail
  go_ret
  exact ⟨rfl, G0.out⟩
 have t3 : ((X.seq : Int) == (k : Int)) = true := by rw [beq_iff_eq]; omega
 by_cases q4 : X.gen = 0
 · have t : ((X.gen : Int) == 0) = true := by rw [beq_iff_eq]; omega
   have hr : R = true := by rw [hR, decide_eq_true_eq]; exact ⟨q1, q2, q3, q4⟩
   subst hr
   clear q1 q2 q3 q4 hR
   go_enter Tryz.func196, Tryz.ntmps196
   go_wp2_with fail
   go_ret
   exact ⟨rfl, G0.out⟩
 · have t : ((X.gen : Int) == 0) = false := by rw [beq_eq_false_iff_ne]; omega
   have hr : R = false := by rw [hR, decide_eq_false_iff_not]; exact fun q => q4 q.2.2.2
   subst hr
   clear q1 q2 q3 q4 hR
   go_enter Tryz.func196, Tryz.ntmps196
   go_wp2_with fail
   go_ret
   exact ⟨rfl, G0.out⟩
structure PF (w0 : World) (L : Pl) (m : Mc) (a d l : Int) (life pa pt : Nat) (A : World) : Prop where
 ms : MSt w0 L m A
 ar : Blk A pa 171 [.pointer (some ⟨L.dp, 0, none⟩), .pointer (some ⟨L.p, 0, none⟩), .int .i64 a, .int .i64 d, .int .i64 l, .int .u64 (life : Int)]
 th : Blk A pt 186 [.func (.func 196) #[] #[.pointer (some ⟨pa, 0, none⟩)]]
def pgR (m : Mc) (a d l : Int) (life k : Nat) : Sec × Nat := decR m.S (areaN a d l life k) (m.d.kept.getD (areaN a d l life k) [])
def pgIs (m : Mc) (a d l : Int) (life k : Nat) : Bool := decide ((pgR m a d l life k).2 = 0) && pgThere life k (pgR m a d l life k).1
def PgOk (L : Pl) (m : Mc) (a d l : Int) (life : Nat) (k : Nat) (args : Array Value) (A : World) : Prop :=
 ∃ A1 c1, args = #[.int .i64 (k : Int), .agg #[.slice A1 (pgR m a d l life k).1.body.length c1, .bool (pgIs m a d l life k)]] ∧ QB L.kb A A1 (pgR m a d l life k).1.body.length c1 (pgR m a d l life k).1.body
set_option maxRecDepth 100000 in
set_option maxHeartbeats 4000000 in
theorem snapPages_any (f : Fit m a d l) (ho : m.Ok n) (hn : n ≤ 900) (hd : m.d.down = false) (hp : m.d.pend = []) (life : Nat) (hl : life < 18446744073709551616) (pa pf pt N : Nat) (hN : (N : Int) = pagesI a d l) (nn : Nat) (hnn : 3 ≤ nn) (w : World) :
 GivesN Tryz.prog nn N 197 #[.pointer (some ⟨pa, 0, none⟩), .pointer (some ⟨pf, 0, none⟩), .pointer (some ⟨pt, 0, none⟩)] (PF w0 L m a d l life pa pt) (PgOk L m a d l life) w := by
 intro q J W gW hJg hJF hJY h0
 have HJG := Lib.hid hJg; have HJF := Lib.hid hJF; have HJY := Lib.hid hJY
 have F0 := hJF 0 W h0
 have H0 := Lib.hid h0
 have HPG := Lib.hid (fun wr => pages_any a d l wr)
 rw [← hN] at HPG
 have HAR : Hid (∀ (k : Nat) (wr : World), k < N → Calls Tryz.prog 198 #[.agg #[.int .i64 a, .int .i64 d, .int .i64 l], .int .u64 (life : Int), .int .i64 (k : Int)] wr fun e w' => e = .returned (.int .i64 ((areaN a d l life k : Nat) : Int)) ∧ Gr wr w') := fun k wr hk => by rw [areaN_eq f.g life k]; exact gArea_any a d l life k wr f.g hl (by omega)
 have HRE := Lib.hid (fun k wr (hk : k < N) (s : MSt w0 L m wr) => s.read ho (by omega) hd hp (areaN a d l life k) (m.d.kept.getD (areaN a d l life k) []) (by
  have := (areaN_lt f.g life k (by omega)).1
  have := f.s
  rw [List.getD_eq_getElem?_getD, List.getElem?_eq_getElem (show areaN a d l life k < _ by omega)]; rfl))
 have HDE := Lib.hid (fun k wr (s : MSt w0 L m wr) A c b (hb : Bs wr A 512 c b) => s.decode ho hn (areaN a d l life k) A c b hb)
 have hN2 : N ≤ 264 := by have := (pgE a d l).2; omega
 have HNE := Lib.hid hN
 clear f ho hd hp gW hJg hJF hJY h0 hN
 refine callsIn_of_wp Tryz.func197 rfl trivial ?_ rfl
 simp only [Tryz.ntmps197, List.size_toArray, List.length_cons, List.length_nil, Nat.reduceAdd, Nat.reduceSub, Array.replicate_succ, Array.replicate_zero, List.push_toArray, List.append_toArray, List.nil_append, List.cons_append]
 have hn1 : 1 ≤ nn - 1 := by omega
 have k2 := F0.ar.cell 2
 have k3 := F0.ar.cell 3
 have k4 := F0.ar.cell 4
 clear F0
 gi_wp2_with (refine ⟨trivial, ?_⟩; gi_at_call 134; refine (callsIn_wide.2 (HPG.out _)).mono ?_; rintro e w1 ⟨rfl, g1⟩; have J1 := Lib.hid (HJG.out _ _ _ H0.out g1); clear g1)
 clear k2 k3 k4
 gi_loopw [14] (fun i wr => ∃ k : Nat, k ≤ N ∧ i = .int .i64 (k : Int) ∧ J k wr) (fun i _ => N - (Go.RowKit.intOf i).toNat)
 case atStart => exact ⟨0, Nat.zero_le _, rfl, J1.out⟩
 case round =>
  obtain ⟨k, hk, rfl, hj⟩ := hrel
  have HJ := Lib.hid hj
  have F1 := HJF.out k wr hj
  clear hj
  by_cases hlt : k < N
  · have t : decide ((k : Int) < (N : Int)) = true := decide_eq_true (by omega)
    have wk : IntKind.i64.wrap ((k : Int) + 1) = (k : Int) + 1 := IntWalk.i64_in _ (by omega)
    obtain ⟨v, hv⟩ : ∃ v, v = areaN a d l life k := ⟨_, rfl⟩
    have HA := Lib.hid (HAR.out k wr hlt)
    have HRK := Lib.hid (fun wq (s : MSt w0 L m wq) => HRE.out k wq hlt s)
    have HDK := Lib.hid (fun wq (s : MSt w0 L m wq) A c (hb : Bs wq A 512 c (m.d.kept.getD (areaN a d l life k) [])) => HDE.out k wq s A c _ hb)
    obtain ⟨X, hX⟩ : ∃ X, X = pgR m a d l life k := ⟨_, rfl⟩
    have hX' : decR m.S (areaN a d l life k) (m.d.kept.getD (areaN a d l life k) []) = X := by rw [hX]; rfl
    rw [hX'] at HDK
    have HX := Lib.hid hX
    clear hX hX'
    rw [← hv] at HA HRK HDK
    have HV := Lib.hid hv
    clear hv
    have k2 := F1.ar.cell 2
    have k3 := F1.ar.cell 3
    have k4 := F1.ar.cell 4
    have k5 := F1.ar.cell 5
    clear F1
    gi_wp2_with (refine ⟨trivial, ?_⟩; gi_at_call 198; refine (callsIn_wide.2 HA.out).mono ?_; rintro e w2 ⟨rfl, g2⟩; have J2 := Lib.hid (HJG.out _ _ _ HJ.out g2); have F2 := HJF.out _ _ J2.out; have k0 := F2.ar.cell 0; clear F2 g2)
    gi_wp2_with (refine ⟨trivial, ?_⟩; gi_at_call 137; refine (callsIn_wide.2 (HRK.out _ (HJF.out _ _ J2.out).ms)).mono ?_; rintro e w3 ⟨A3, c3, rfl, q3, g3⟩; have J3 := Lib.hid (HJG.out _ _ _ J2.out g3); have Q3 := Lib.hid q3.b; have F3 := HJF.out _ _ J3.out; have k1 := F3.ar.cell 1; clear F3 g3 q3)
    clear k0 k2 k3 k4 k5
    gi_wp2_with (refine ⟨trivial, ?_⟩; gi_at_call 138; refine (callsIn_wide.2 (HDK.out _ (HJF.out _ _ J3.out).ms A3 c3 Q3.out)).mono ?_; rintro e w4 ⟨A4, c4, rfl, o4⟩; have J4 := Lib.hid (HJG.out _ _ _ J3.out o4.below); have O4 := Lib.hid o4; clear o4; unfold secV)
    obtain ⟨w5, hw5⟩ : ∃ w5, w5 = w4.alloc (.cells #[.int .i64 (X.1.kind : Int), .int .u64 (X.1.life : Int), .int .i64 (X.1.seq : Int), .int .u64 (X.1.gen : Int), .slice A4 X.1.body.length c4] 129) := ⟨_, rfl⟩
    have K5 : Hid (Blk w5 w4.heap.size 129 [.int .i64 (X.1.kind : Int), .int .u64 (X.1.life : Int), .int .i64 (X.1.seq : Int), .int .u64 (X.1.gen : Int), .slice A4 X.1.body.length c4]) := by rw [hw5]; exact Blk.new w4 _ _
    have G45 : Hid (Gr w4 w5) := by rw [hw5]; exact Gr.alloc _ _
    have J5 := Lib.hid (HJG.out _ _ _ J4.out G45.out)
    have Q5 : Hid (QB L.kb w5 A4 X.1.body.length c4 X.1.body) := QB.own (w := w3) (O4.out.mono G45.out)
    rw [← hw5]
    clear hw5 O4 G45
    have F5 := Lib.hid (HJF.out _ _ J5.out)
    have HTH := Lib.hid (fun wq (g : Gr w5 wq) => there_snap (L := L) (a := a) (d := d) (l := l) pa k life X.1 A4 c4 wq (F5.out.ar.mono g))
    obtain ⟨xs, xk⟩ := X
    simp only at HTH K5 Q5 HX
    by_cases hz : xk = 0
    · have tz : ((xk : Int) == 0) = true := by rw [beq_iff_eq]; omega
      have HIS : Hid (pgIs m a d l life k = pgThere life k xs) := by show _ = _; unfold pgIs; rw [← HX.out]; simp [hz]
      obtain ⟨tb, htb⟩ : ∃ tb, tb = pgThere life k xs := ⟨_, rfl⟩
      rw [← htb] at HTH HIS
      clear hz htb
      refine IG.wrG (by kernel_rfl) [0, 0, 0, 4, 0, 16, 48, 112, 112, 112, 1008, 2032, 4092, 8191, 16383] [.p 0, .p 1, .p 2, .p 4, .p 5, .p 6, .p 8, .q 3, .q 7, .q 9, .c 10, .p 11, .p 12, .s 13, .p 14] (by kernel_rfl) (trivial) ?_
      iterate 7
       refine IG.wPe rfl rfl ?_
       apply Exists.intro
       refine ⟨fun wq => ?_, ?_⟩
       · unfold pLa
         go_simp
         first | exact rfl | exact ⟨rfl, rfl⟩
       go_simp
      refine IG.wQe rfl rfl ?_
      apply Exists.intro
      refine ⟨fun wq hq => ?_, ?_⟩
      · have z4 := (K5.out.mono ((Gr.drew _).trans hq)).cell 4
        unfold pLa
        go_simp
        first | exact rfl | exact ⟨rfl, rfl⟩
      go_simp
      refine IG.wQe rfl rfl ?_
      apply Exists.intro
      refine ⟨fun wq hq => ?_, ?_⟩
      · have y0 := (F5.out.th.mono ((Gr.drew _).trans hq)).cell 0
        unfold pLa
        go_simp
        first | exact rfl | exact ⟨rfl, rfl⟩
      go_simp
      refine IG.wQe rfl rfl ?_
      apply Exists.intro
      refine ⟨fun wq hq => ?_, ?_⟩
      · have z0 := (K5.out.mono ((Gr.drew _).trans hq)).cell 0; have z1 := (K5.out.mono ((Gr.drew _).trans hq)).cell 1; have z2 := (K5.out.mono ((Gr.drew _).trans hq)).cell 2; have z3 := (K5.out.mono ((Gr.drew _).trans hq)).cell 3; have z4 := (K5.out.mono ((Gr.drew _).trans hq)).cell 4
        unfold pLa
        go_simp
        first | exact rfl | exact ⟨rfl, rfl⟩
      go_simp
      refine IG.wpG_c rfl rfl ?_
      intro w6 g6 K hK
      unfold IG.opW
      go_simp
      gi_at_call 196
      refine (callsIn_wide.2 (HTH.out w6 ((Gr.drew _).trans g6))).mono ?_
      rintro e wn ⟨rfl, g7⟩
      refine hK _ _ g7 ?_; have G7 := Lib.hid (((Gr.drew w5).trans g6).trans g7); clear g6 g7 hK
      go_simp
      iterate 2
       refine IG.wPe rfl rfl ?_
       apply Exists.intro
       refine ⟨fun wq => ?_, ?_⟩
       · unfold pLa
         go_simp
         first | exact rfl | exact ⟨rfl, rfl⟩
       go_simp
      refine IG.wpG_s rfl rfl ?_
      intro w8 g8 K hK
      have J8 := HJG.out _ _ _ J5.out (G7.out.trans g8)
      have ok8 : PgOk L m a d l life k #[.int .i64 (k : Int), .agg #[.slice A4 xs.body.length c4, .bool tb]] w8 := ⟨A4, c4, by rw [HIS.out, ← HX.out], by rw [← HX.out]; exact Q5.out.mono (G7.out.trans g8)⟩
      obtain ⟨fn, tmps, assign, body, hy, hR⟩ := HJY.out k _ w8 hlt J8 ok8
      have HRR := Lib.hid hR
      clear hR ok8 J8 g8
      unfold IG.opW
      go_simp
      refine HRR.out.mono ?_
      rintro e W9 ⟨rfl, j9⟩
      refine hK _ _ ?_
      clear hK HRR hy
      have J9 := Lib.hid j9
      clear j9
      go_simp
      refine IG.wPe rfl rfl ?_
      apply Exists.intro
      refine ⟨fun wq => ?_, ?_⟩
      · unfold pLa
        go_simp
        first | exact rfl | exact ⟨rfl, rfl⟩
      go_simp
      refine IG.wNi ?_
      intro w10 g10
      have J10 := Lib.hid (HJG.out _ _ _ J9.out g10)
      clear g10
      gi_wp2
      exact ⟨⟨k + 1, by omega, by go_num, J10.out⟩, by simp [Go.RowKit.intOf]; omega⟩
    · have tz : ((xk : Int) == 0) = false := by rw [beq_eq_false_iff_ne]; omega
      have HIS : Hid (pgIs m a d l life k = false) := by show _ = _; unfold pgIs; rw [← HX.out]; simp [hz]
      clear hz
      refine IG.wrG (by kernel_rfl) [0, 0, 0, 4, 0, 16, 48, 112, 112, 112, 1008, 2032, 4092, 8191, 16383] [.p 0, .p 1, .p 2, .p 4, .p 5, .p 6, .p 8, .q 3, .q 7, .q 9, .c 10, .p 11, .p 12, .s 13, .p 14] (by kernel_rfl) (trivial) ?_
      iterate 6
       refine IG.wPe rfl rfl ?_
       apply Exists.intro
       refine ⟨fun wq => ?_, ?_⟩
       · unfold pLa
         go_simp
         first | exact rfl | exact ⟨rfl, rfl⟩
       go_simp
      first | refine IG.wGp rfl rfl ?_ | refine IG.wGq rfl rfl ?_ | refine IG.wGc rfl rfl ?_
      go_simp
      refine IG.wQe rfl rfl ?_
      apply Exists.intro
      refine ⟨fun wq hq => ?_, ?_⟩
      · have z4 := (K5.out.mono ((Gr.drew _).trans hq)).cell 4
        unfold pLa
        go_simp
        first | exact rfl | exact ⟨rfl, rfl⟩
      go_simp
      first | refine IG.wGp rfl rfl ?_ | refine IG.wGq rfl rfl ?_ | refine IG.wGc rfl rfl ?_
      go_simp
      first | refine IG.wGp rfl rfl ?_ | refine IG.wGq rfl rfl ?_ | refine IG.wGc rfl rfl ?_
      go_simp
      first | refine IG.wGp rfl rfl ?_ | refine IG.wGq rfl rfl ?_ | refine IG.wGc rfl rfl ?_
      go_simp
      iterate 2
       refine IG.wPe rfl rfl ?_
       apply Exists.intro
       refine ⟨fun wq => ?_, ?_⟩
       · unfold pLa
         go_simp
         first | exact rfl | exact ⟨rfl, rfl⟩
       go_simp
      refine IG.wpG_s rfl rfl ?_
      intro w8 g8 K hK
      have J8 := HJG.out _ _ _ J5.out ((Gr.drew _).trans g8)
      have ok8 : PgOk L m a d l life k #[.int .i64 (k : Int), .agg #[.slice A4 xs.body.length c4, .bool false]] w8 := ⟨A4, c4, by rw [HIS.out, ← HX.out], by rw [← HX.out]; exact Q5.out.mono ((Gr.drew _).trans g8)⟩
      obtain ⟨fn, tmps, assign, body, hy, hR⟩ := HJY.out k _ w8 hlt J8 ok8
      have HRR := Lib.hid hR
      clear hR ok8 J8 g8
      unfold IG.opW
      go_simp
      refine HRR.out.mono ?_
      rintro e W9 ⟨rfl, j9⟩
      refine hK _ _ ?_
      clear hK HRR hy
      have J9 := Lib.hid j9
      clear j9
      go_simp
      refine IG.wPe rfl rfl ?_
      apply Exists.intro
      refine ⟨fun wq => ?_, ?_⟩
      · unfold pLa
        go_simp
        first | exact rfl | exact ⟨rfl, rfl⟩
      go_simp
      refine IG.wNi ?_
      intro w10 g10
      have J10 := Lib.hid (HJG.out _ _ _ J9.out g10)
      clear g10
      gi_wp2
      exact ⟨⟨k + 1, by omega, by go_num, J10.out⟩, by simp [Go.RowKit.intOf]; omega⟩
  · obtain rfl : N = k := by omega
    have t : decide ((N : Int) < (N : Int)) = false := decide_eq_false (by omega)
    clear F1
    gi_wp2
    go_end0
    exact ⟨⟨_, rfl⟩, HJ.out⟩
theorem snapPagesMk_any (w : World) (pf life : Nat) : Calls Tryz.prog 132 #[.agg #[.pointer (some ⟨L.dp, 0, none⟩), .pointer (some ⟨L.p, 0, none⟩), .int .i64 a, .int .i64 d, .int .i64 l, .int .u64 (life : Int)], .pointer (some ⟨pf, 0, none⟩)] w fun e w' => ∃ pa pg pt, e = .returned (.func (.func 197) #[] #[.pointer (some ⟨pa, 0, none⟩), .pointer (some ⟨pg, 0, none⟩), .pointer (some ⟨pt, 0, none⟩)]) ∧ Gr w w' ∧
 Blk w' pa 171 [.pointer (some ⟨L.dp, 0, none⟩), .pointer (some ⟨L.p, 0, none⟩), .int .i64 a, .int .i64 d, .int .i64 l, .int .u64 (life : Int)] ∧ Blk w' pt 186 [.func (.func 196) #[] #[.pointer (some ⟨pa, 0, none⟩)]] ∧ w.heap.size ≤ pa ∧ w.heap.size ≤ pt := by
 go_enter Tryz.func132, Tryz.ntmps132
 go_wp2_with fail
 go_ret
 have e1 : ∀ (v : Value) (t : TypeId), Blk (w.alloc (.cells #[v] t)) w.heap.size t [v] := fun v t => Blk.new w t #[v]
 refine ⟨w.heap.size, w.heap.size + 1, w.heap.size + 1 + 1, rfl, ((Gr.alloc _ _).trans (Gr.alloc _ _)).trans (Gr.alloc _ _), ((Blk.new w _ _).alloc _).alloc _, ?_, Nat.le_refl _, by omega⟩
 have := Blk.new ((w.alloc (.cells #[.pointer (some ⟨L.dp, 0, none⟩), .pointer (some ⟨L.p, 0, none⟩), .int .i64 a, .int .i64 d, .int .i64 l, .int .u64 (life : Int)] 171)).alloc (.cells #[.pointer (some ⟨pf, 0, none⟩)] 175)) 186 #[.func (.func 196) #[] #[.pointer (some ⟨w.heap.size, 0, none⟩)]]
 rwa [World.size_alloc, World.size_alloc] at this
end
end
end Go.Proofs.YtdkmlmbehlooiaaGreatDoor
