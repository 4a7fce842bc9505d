/- ObEpG, ObEpW: one text. No condition. -/
import Derived.Test.YthlnoaalhojphaaDoorObEpA
import Derived.Test.YthlnoaalhojphaaDoorObEpD
import Derived.Test.YthlnoaalhojphaaDoorObEpF
import Derived.Outline
/- Epochs of terms: what they are, in plain Lean. No condition. -/
namespace Go.Proofs.YthlnoaalhojphaaDoor
open Go.RowKit
set_option linter.unusedVariables false
section
variable {σ : Type}
def chF (dv : σ → List UInt8 → List UInt8 → σ × List UInt8) (lab : Nat → List UInt8) (k : List UInt8) (s : σ) : Nat → σ × List (List UInt8)
  | 0 => (s, [])
  | n + 1 => let r := chF dv lab k s n; let d := dv r.1 k (lab n); (d.1, r.2 ++ [d.2])
def bornF (dv : σ → List UInt8 → List UInt8 → σ × List UInt8) (lab : Nat → List UInt8) (s : σ) (k : List UInt8) (snd : Nat) : σ × Brt :=
  let a := dv s k exS
  let b := dv a.1 k inS
  let c := chF dv lab k b.1 snd
  (c.1, ⟨a.2, b.2, c.2⟩)
def firstF (dv : σ → List UInt8 → List UInt8 → σ × List UInt8) (lab : Nat → List UInt8) (s : σ) (k : List UInt8) (snd : Nat) : σ × Brt := let a := dv s k joinS; bornF dv lab a.1 a.2 snd
def nextF (dv mx : σ → List UInt8 → List UInt8 → σ × List UInt8) (lab : Nat → List UInt8) (s : σ) (i k : List UInt8) (snd : Nat) : σ × Brt := let a := mx s i k; firstF dv lab a.1 a.2 snd
end
/-- Labels below ten. -/
def labC (k : Nat) : List UInt8 := [115, 101, 110, 100, 101, 114, 32, UInt8.ofNat (48 + k)]
theorem labC_eq (k : Nat) (h : k < 10) : senderS k = labC k := by unfold senderS labC; rw [dec_small k h]; rfl
section
variable {w0 : World} {p : Nat}
theorem chS_F (S : Sui w0 p) (k : List UInt8) (s : S.σ) : ∀ n, n ≤ 10 → chS S k s n = chF S.dv labC k s n
  | 0, _ => rfl
  | n + 1, h => by
    have ih := chS_F S k s n (by omega)
    show (let r := chS S k s n; let d := S.dv r.1 k (senderS n); (d.1, r.2 ++ [d.2])) = _
    rw [ih, labC_eq n (by omega)]
    rfl
theorem bornS_F (S : Sui w0 p) (s : S.σ) (k : List UInt8) (n : Nat) (h : n ≤ 10) : bornS S s k n = bornF S.dv labC s k n := by
  unfold bornS bornF
  simp only [chS_F S k _ n h]
theorem firstS_F (S : Sui w0 p) (s : S.σ) (k : List UInt8) (n : Nat) (h : n ≤ 10) : firstS S s k n = firstF S.dv labC s k n := by
  unfold firstS firstF
  exact bornS_F S _ _ n h
theorem nextS_F (S : Sui w0 p) (s : S.σ) (i k : List UInt8) (n : Nat) (h : n ≤ 10) : nextS S s i k n = nextF S.dv S.mx labC s i k n := by
  unfold nextS nextF
  exact firstS_F S _ _ n h
end
def dvT (T : List Nd) (k l : List UInt8) : List Nd × List UInt8 := ((derT T k ⟨l.toArray⟩).1, handleL (derT T k ⟨l.toArray⟩).2)
def mxT (T : List Nd) (a b : List UInt8) : List Nd × List UInt8 := ((mixT T a b).1, handleL (mixT T a b).2)
def T2 : List Nd := (atomT (atomT []).1).1
def alikeB (snd : Nat) : Bool :=
  let r := nextF dvT mxT labC T2 (handleL 1) (handleL 2) snd
  let q := nextF dvT mxT labC r.1 (handleL 1) (handleL 2) snd
  decide (q.2.ex = r.2.ex) && decide (q.2.ini = r.2.ini) && decide (q.2.ch = r.2.ch) && decide (r.2.ch.Nodup) && decide (r.2.ex ≠ r.2.ini)
set_option maxRecDepth 100000 in
theorem alike4 : (alikeB 1 && alikeB 2 && alikeB 3 && alikeB 4) = true := by decide +kernel
end Go.Proofs.YthlnoaalhojphaaDoor
/- EpochAlike walked. No condition. -/
namespace Go.Proofs.YthlnoaalhojphaaDoor
open Go.RowKit
set_option linter.unusedVariables false
theorem alike_of (n : Nat) (h1 : 1 ≤ n) (h4 : n ≤ 4) : alikeB n = true := by
  have h := alike4
  rw [Bool.and_eq_true, Bool.and_eq_true, Bool.and_eq_true] at h
  obtain ⟨⟨⟨a, b⟩, c⟩, d⟩ := h
  match n, h1, h4 with
  | 1, _, _ => exact a
  | 2, _, _ => exact b
  | 3, _, _ => exact c
  | 4, _, _ => exact d
/-- What two epochs of the same secrets have. -/
theorem alike_facts {w : World} {p g bm bs : Nat} (n : Nat) (h1 : 1 ≤ n) (h4 : n ≤ 4) (r q : List Nd × Brt) (hr : r = nextS (symSui w p g bm bs) T2 (handleL 1) (handleL 2) n) (hq : q = nextS (symSui w p g bm bs) r.1 (handleL 1) (handleL 2) n) :
    q.2.ex = r.2.ex ∧ q.2.ini = r.2.ini ∧ q.2.ch = r.2.ch ∧ r.2.ch.Nodup ∧ r.2.ex ≠ r.2.ini := by
  have e1 : r = nextF dvT mxT labC T2 (handleL 1) (handleL 2) n := hr.trans (nextS_F _ _ _ _ n (by omega))
  have e2 : q = nextF dvT mxT labC r.1 (handleL 1) (handleL 2) n := hq.trans (nextS_F _ _ _ _ n (by omega))
  have h := alike_of n h1 h4
  unfold alikeB at h
  simp only [← e1, ← e2, Bool.and_eq_true, decide_eq_true_eq] at h
  exact ⟨h.1.1.1.1, h.1.1.1.2, h.1.1.2, h.1.2, h.2⟩
theorem nextS_len {w0 : World} {p : Nat} (S : Sui w0 p) (s : S.σ) (i k : List UInt8) (n : Nat) : (nextS S s i k n).2.ch.length = n := chS_len S _ _ n
theorem Kp.bs {w0 w : World} {A : Option Addr} {n c : Nat} {l : List UInt8} (h : Kp w0 w (.slice A n c) l) (hb : Below w0.heap.size w0 w) : Bs w A n c l := by
  obtain ⟨A', c', e, hs, _⟩ := h.at hb
  injection e with e1 e2 e3
  subst e1 e2 e3
  exact hs
/-- A birth, to be read. -/
structure Bir (w : World) (g n : Nat) (Ae Ai Ac : Option Addr) (ce ci cc : Nat) (ex ini : List UInt8) (M : List BRow) : Prop where
  blk : Blk w g 51 [.slice Ae 32 ce, .slice Ai 32 ci, .slice Ac n cc]
  e : Bs w Ae 32 ce ex
  i : Bs w Ai 32 ci ini
  c : Chr w Ac n cc M
theorem Bir.gr {w w' : World} {g n : Nat} {Ae Ai Ac : Option Addr} {ce ci cc : Nat} {ex ini : List UInt8} {M : List BRow} (h : Bir w g n Ae Ai Ac ce ci cc ex ini M) (hg : Gr w w') : Bir w' g n Ae Ai Ac ce ci cc ex ini M := ⟨hg.blk h.blk, h.e.mono hg, h.i.mono hg, h.c.mono hg⟩
/-- A birth that a call answered, laid in a cell, behind more calls. -/
theorem bir_of {w0 w2 : World} {g n B : Nat} {Ae Ai : Option Addr} {vc : Value} {ce ci : Nat} {ex ini : List UInt8} {M : List BRow} (hb : Below w0.heap.size w0 w2) (hB : B ≤ w2.heap.size) (blk : Blk w2 g 51 [.slice Ae 32 ce, .slice Ai 32 ci, vc]) (ke : Kp w0 w2 (.slice Ae 32 ce) ex) (ki : Kp w0 w2 (.slice Ai 32 ci) ini) (ch : Chs w0 B w2 vc M) (hl : M.length = n) :
    ∃ Ac cc, vc = .slice Ac n cc ∧ Bir w2 g n Ae Ai Ac ce ci cc ex ini M := by
  obtain ⟨Ac, cc, rfl, hc⟩ := ch.chr hb hB
  rw [hl] at hc blk ⊢
  exact ⟨Ac, cc, rfl, blk, ke.bs hb, ki.bs hb, hc⟩
set_option maxRecDepth 100000 in
set_option maxHeartbeats 4000000 in
theorem epochAlike_walk (snd : Int) (w : World) (hs : -9223372036854775808 ≤ snd ∧ snd ≤ 9223372036854775807) (hK : ShaK w) :
    Calls Tryd.prog 6 #[.int .i64 snd] w fun e w' => e = .returned (.bool true) ∧ Below w.heap.size w w' := by
  have HAL : Hid (∀ W, Gr w W → Calls Tryd.prog 25 #[] W fun e w' => e = .returned (.bool true) ∧ Gr W w') := fun W hW => alive34 W (hK.mono hW)
  clear hK
  by_cases h1 : snd < 1
  · skip
    go_enter Tryd.func6, Tryd.ntmps6
    go_wp2_with fail
    refine (HAL.out w (Gr.refl _)).mono ?_
    rintro e w1 ⟨rfl, g1⟩
    have G1 := Lib.hid g1; clear g1
    go_wp2_with fail
    go_ret
    exact ⟨rfl, G1.out⟩
  by_cases h2 : 4 < snd
  · skip
    go_enter Tryd.func6, Tryd.ntmps6
    go_wp2_with fail
    refine (HAL.out w (Gr.refl _)).mono ?_
    rintro e w1 ⟨rfl, g1⟩
    have G1 := Lib.hid g1; clear g1
    go_wp2_with fail
    go_ret
    exact ⟨rfl, G1.out⟩
  obtain ⟨n, rfl⟩ : ∃ n : Nat, snd = n := ⟨snd.toNat, by omega⟩
  have hn1 : 1 ≤ n := by omega
  have hn4 : n ≤ 4 := by omega
  clear hs
  go_enter Tryd.func6, Tryd.ntmps6
  go_wp2_with fail
  refine (symbolic_any w).mono ?_
  rintro e w1 ⟨p, g, bm, bs, rfl, s1, hp⟩
  have S1 := Lib.hid s1; clear s1 hp
  go_wp2_with fail
  refine (S1.out.draw (by decide)).mono ?_
  rintro e w2 ⟨v1, rfl, o2, s2, f2⟩
  obtain ⟨A1, c1, rfl, _⟩ := o2.slice
  have O2 := Lib.hid o2; have S2 := Lib.hid s2; clear o2 s2 f2 S1
  go_wp2_with fail
  refine (S2.out.draw (by decide)).mono ?_
  rintro e w3 ⟨v2, rfl, o3, s3, f3⟩
  obtain ⟨A2, c2, rfl, _⟩ := o3.slice
  have K1 : Hid (Kp w w3 (.slice A1 32 c1) (handleL 1)) := (Kp.own O2.out (handleL_len _).symm).fr (FR.fs f3)
  have K2 : Hid (Kp w w3 (.slice A2 32 c2) (handleL 2)) := Kp.own o3 (handleL_len _).symm
  have ST3 : Hid ((symSui w p g bm bs).St w3 T2 (n + 4 + n + 4)) := ⟨s3, by show 2 + 3 * (n + 4 + n + 4) ≤ 990; omega⟩
  clear o3 s3 f3 O2 S2
  have hb3 : Below w.heap.size w w3 := ST3.out.1.below
  go_wp2_with fail
  refine (epNext_any (symSui w p g bm bs) T2 (n + 4) n (.slice A1 32 c1) (.slice A2 32 c2) (handleL 1) (handleL 2) hn1 hn4 ST3.out K1.out K2.out (handleL_len _) (handleL_len _)).mono ?_
  rintro e w4 ⟨ve, vi, vc, M, rfl, ke, ki, ch, ml, st, fs⟩
  obtain ⟨Ae, ce, rfl⟩ := ke.sl (Sui.dvLen _ _ _ _)
  obtain ⟨Ai, ci, rfl⟩ := ki.sl (Sui.dvLen _ _ _ _)
  obtain ⟨Ac, cc, rfl⟩ := ch.sl
  obtain ⟨r, hr⟩ : ∃ r, r = nextS (symSui w p g bm bs) T2 (handleL 1) (handleL 2) n := ⟨_, rfl⟩
  rw [← hr] at ke ki ml st
  have HR := Lib.hid hr
  have hml : M.length = n := by
    have h := congrArg List.length ml
    rw [List.length_map, hr] at h
    exact h.trans (nextS_len (symSui w p g bm bs) T2 (handleL 1) (handleL 2) n)
  rw [hml] at ch ⊢
  have HML := Lib.hid hml
  have GA : Hid (Gr w4 (w4.alloc (.cells #[.slice Ae 32 ce, .slice Ai 32 ci, .slice Ac n cc] 51))) := Gr.alloc _ _
  have BA : Hid (Blk (w4.alloc (.cells #[.slice Ae 32 ce, .slice Ai 32 ci, .slice Ac n cc] 51)) w4.heap.size 51 [.slice Ae 32 ce, .slice Ai 32 ci, .slice Ac n cc]) := Blk.new _ _ _
  have F1 : Hid (FS w3 (w4.alloc (.cells #[.slice Ae 32 ce, .slice Ai 32 ci, .slice Ac n cc] 51))) := fs.trans (FS.gr GA.out)
  have KE := Lib.hid (ke.fr (FR.gr GA.out)); have KI := Lib.hid (ki.fr (FR.gr GA.out)); have CH := Lib.hid ((ch.less hb3.size).fs (FS.gr GA.out)); have ML := Lib.hid ml; have ST4 := Lib.hid ((symSui w p g bm bs).gr st GA.out)
  clear ke ki ch ml st fs hr hml
  obtain ⟨pa, hpa⟩ : ∃ pa, pa = w4.heap.size := ⟨_, rfl⟩
  rw [← hpa] at BA
  have HPA := Lib.hid hpa; clear hpa
  go_wp2_with fail
  rw [← HPA.out]
  generalize hw5 : w4.alloc (.cells #[.slice Ae 32 ce, .slice Ai 32 ci, .slice Ac n cc] 51) = w5 at *
  refine (epNext_any (symSui w p g bm bs) r.1 0 n (.slice A1 32 c1) (.slice A2 32 c2) (handleL 1) (handleL 2) hn1 hn4 (Sui.less _ ST4.out (by omega)) (K1.out.fr (FR.fs F1.out)) (K2.out.fr (FR.fs F1.out)) (handleL_len _) (handleL_len _)).mono ?_
  rintro e w6 ⟨ve, vi, vc, M', rfl, ke, ki, ch, ml, st, fs⟩
  obtain ⟨Be, de, rfl⟩ := ke.sl (Sui.dvLen _ _ _ _)
  obtain ⟨Bi, di, rfl⟩ := ki.sl (Sui.dvLen _ _ _ _)
  obtain ⟨Bc, dc, rfl⟩ := ch.sl
  obtain ⟨q, hq⟩ : ∃ q, q = nextS (symSui w p g bm bs) r.1 (handleL 1) (handleL 2) n := ⟨_, rfl⟩
  rw [← hq] at ke ki ml st
  have HQ := Lib.hid hq
  have hml : M'.length = n := by
    have h := congrArg List.length ml
    rw [List.length_map, hq] at h
    exact h.trans (nextS_len (symSui w p g bm bs) r.1 (handleL 1) (handleL 2) n)
  rw [hml] at ch ⊢
  have HML' := Lib.hid hml
  have hb5 : Below w.heap.size w w5 := (Sui.below _ ST4.out)
  have hb6 : Below w.heap.size w w6 := (Sui.below _ st)
  have GB : Hid (Gr w6 (w6.alloc (.cells #[.slice Be 32 de, .slice Bi 32 di, .slice Bc n dc] 51))) := Gr.alloc _ _
  have BB : Hid (Blk (w6.alloc (.cells #[.slice Be 32 de, .slice Bi 32 di, .slice Bc n dc] 51)) w6.heap.size 51 [.slice Be 32 de, .slice Bi 32 di, .slice Bc n dc]) := Blk.new _ _ _
  have F2 : Hid (FS w5 (w6.alloc (.cells #[.slice Be 32 de, .slice Bi 32 di, .slice Bc n dc] 51))) := fs.trans (FS.gr GB.out)
  have KE' := Lib.hid (ke.fr (FR.gr GB.out)); have KI' := Lib.hid (ki.fr (FR.gr GB.out)); have CH' := Lib.hid ((ch.less hb5.size).fs (FS.gr GB.out)); have ML' := Lib.hid ml
  have hb7 : Below w.heap.size w (w6.alloc (.cells #[.slice Be 32 de, .slice Bi 32 di, .slice Bc n dc] 51)) := hb6.trans (GB.out.mono' hb6.size)
  clear ke ki ch ml st fs hq hml hb6 hb5
  obtain ⟨pb, hpb⟩ : ∃ pb, pb = w6.heap.size := ⟨_, rfl⟩
  rw [← hpb] at BB
  have HPB := Lib.hid hpb; have HB7 := Lib.hid hb7
  clear hpb hb7
  go_upto_region 7 with fail
  rw [← HPB.out]
  generalize hw7 : w6.alloc (.cells #[.slice Be 32 de, .slice Bi 32 di, .slice Bc n dc] 51) = w7 at *
  have hbirA := bir_of HB7.out HB7.out.size (F2.out _ _ _ (by decide) (by decide) (by decide) BA.out) (KE.out.fr (FR.fs F2.out)) (KI.out.fr (FR.fs F2.out)) (CH.out.fs F2.out) HML.out
  have hbirB := bir_of HB7.out HB7.out.size BB.out KE'.out KI'.out CH'.out HML'.out
  obtain ⟨_, _, e, bira⟩ := hbirA
  injection e with e1 e2 e3
  subst e1 e3
  obtain ⟨_, _, e, birb⟩ := hbirB
  injection e with e1 e2 e3
  subst e1 e3
  clear e2
  have hfacts := alike_facts n hn1 hn4 r q HR.out HQ.out
  obtain ⟨fa1, fa2, fa3, fa4, fa5⟩ := hfacts
  rw [fa1, fa2] at birb
  have hmm : M'.map BRow.l = M.map BRow.l := by rw [ML.out, ML'.out, fa3]
  rw [← ML.out] at fa4
  have BIA := Lib.hid bira; have BIB := Lib.hid birb; have MM := Lib.hid hmm; have ND := Lib.hid fa4; have NE := Lib.hid fa5
  clear bira birb hmm fa1 fa2 fa3 fa4 fa5 HR HQ F1 F2 BA BB KE KI CH KE' KI' CH' ML ML' K1 K2 ST3 ST4 GA GB
  generalize r.2.ex = ex at *
  generalize r.2.ini = ini at *
  have HNN : ((n : Int) != (n : Int)) = false := by simp
  have CA : Hid (∀ wq, Gr w7 wq → wq.cell? ⟨pa, 0, none⟩ = some (.slice Ae 32 ce) ∧ wq.cell? ⟨pa, 1, none⟩ = some (.slice Ai 32 ci) ∧ wq.cell? ⟨pa, 2, none⟩ = some (.slice Ac n cc)) := fun wq hq => ⟨((hq.blk BIA.out.blk).cell 0).trans rfl, ((hq.blk BIA.out.blk).cell 1).trans rfl, ((hq.blk BIA.out.blk).cell 2).trans rfl⟩
  have CB : Hid (∀ wq, Gr w7 wq → wq.cell? ⟨pb, 0, none⟩ = some (.slice Be 32 de) ∧ wq.cell? ⟨pb, 1, none⟩ = some (.slice Bi 32 di) ∧ wq.cell? ⟨pb, 2, none⟩ = some (.slice Bc n dc)) := fun wq hq => ⟨((hq.blk BIB.out.blk).cell 0).trans rfl, ((hq.blk BIB.out.blk).cell 1).trans rfl, ((hq.blk BIB.out.blk).cell 2).trans rfl⟩
  refine wp_region_grow (by kernel_rfl) [0, 1, 3, 7, 15, 31, 63, 127, 255, 511, 127, 2047, 4095, 8191, 16383, 32767, 16383, 131071, 262143, 524287, 1048575] [.p 0, .p 1, .p 2, .p 3, .p 4, .p 5, .p 6, .p 7, .p 10, .q 8, .p 9, .p 11, .p 12, .p 13, .q 14, .q 16, .c 15, .c 17, .c 18, .p 19, .p 20] (by kernel_rfl) (trivial) ?_
  refine wpG_pe rfl rfl ?_
  apply Exists.intro
  refine ⟨fun wq => ?_, ?_⟩
  · unfold plainAt
    go_simp
    first | exact rfl | exact ⟨rfl, rfl⟩
  go_simp
  refine wpG_pe rfl rfl ?_
  apply Exists.intro
  refine ⟨fun wq => ?_, ?_⟩
  · unfold plainAt
    go_simp
    first | exact rfl | exact ⟨rfl, rfl⟩
  go_simp
  refine wpG_pe rfl rfl ?_
  apply Exists.intro
  refine ⟨fun wq => ?_, ?_⟩
  · unfold plainAt
    go_simp
    first | exact rfl | exact ⟨rfl, rfl⟩
  go_simp
  refine wpG_pe rfl rfl ?_
  apply Exists.intro
  refine ⟨fun wq => ?_, ?_⟩
  · unfold plainAt
    go_simp
    first | exact rfl | exact ⟨rfl, rfl⟩
  go_simp
  refine wpG_pe rfl rfl ?_
  apply Exists.intro
  refine ⟨fun wq => ?_, ?_⟩
  · unfold plainAt
    go_simp
    first | exact rfl | exact ⟨rfl, rfl⟩
  go_simp
  refine wpG_pe rfl rfl ?_
  apply Exists.intro
  refine ⟨fun wq => ?_, ?_⟩
  · unfold plainAt
    go_simp
    first | exact rfl | exact ⟨rfl, rfl⟩
  go_simp
  refine wpG_pe rfl rfl ?_
  apply Exists.intro
  refine ⟨fun wq => ?_, ?_⟩
  · unfold plainAt
    go_simp
    first | exact rfl | exact ⟨rfl, rfl⟩
  go_simp
  refine wpG_pe rfl rfl ?_
  apply Exists.intro
  refine ⟨fun wq => ?_, ?_⟩
  · unfold plainAt
    go_simp
    first | exact rfl | exact ⟨rfl, rfl⟩
  go_simp
  refine wpG_pe rfl rfl ?_
  apply Exists.intro
  refine ⟨fun wq => ?_, ?_⟩
  · unfold plainAt
    go_simp
    first | exact rfl | exact ⟨rfl, rfl⟩
  go_simp
  refine wpG_qe rfl rfl ?_
  apply Exists.intro
  refine ⟨fun wq hq => ?_, ?_⟩
  · obtain ⟨z0, z1, z2⟩ := CA.out wq ((Gr.drew _).trans hq)
    unfold plainAt
    go_simp
    first | exact rfl | exact ⟨rfl, rfl⟩
  go_simp
  refine wpG_pe rfl rfl ?_
  apply Exists.intro
  refine ⟨fun wq => ?_, ?_⟩
  · unfold plainAt
    go_simp
    first | exact rfl | exact ⟨rfl, rfl⟩
  go_simp
  refine wpG_pe rfl rfl ?_
  apply Exists.intro
  refine ⟨fun wq => ?_, ?_⟩
  · unfold plainAt
    go_simp
    first | exact rfl | exact ⟨rfl, rfl⟩
  go_simp
  refine wpG_pe rfl rfl ?_
  apply Exists.intro
  refine ⟨fun wq => ?_, ?_⟩
  · unfold plainAt
    go_simp
    first | exact rfl | exact ⟨rfl, rfl⟩
  go_simp
  refine wpG_pe rfl rfl ?_
  apply Exists.intro
  refine ⟨fun wq => ?_, ?_⟩
  · unfold plainAt
    go_simp
    first | exact rfl | exact ⟨rfl, rfl⟩
  go_simp
  refine wpG_qe rfl rfl ?_
  apply Exists.intro
  refine ⟨fun wq hq => ?_, ?_⟩
  · obtain ⟨z0, z1, z2⟩ := CA.out wq ((Gr.drew _).trans hq)
    unfold plainAt
    go_simp
    first | exact rfl | exact ⟨rfl, rfl⟩
  go_simp
  refine wpG_qe rfl rfl ?_
  apply Exists.intro
  refine ⟨fun wq hq => ?_, ?_⟩
  · obtain ⟨z0, z1, z2⟩ := CB.out wq ((Gr.drew _).trans hq)
    unfold plainAt
    go_simp
    first | exact rfl | exact ⟨rfl, rfl⟩
  go_simp
  refine wpG_c rfl rfl ?_
  intro w8 g8 K hK
  go_simp
  go_at_call 30
  refine ((back34_any Ae Ai Ac 32 ce 32 ci n cc M w8 (BIA.out.c.mono ((Gr.drew _).trans g8)) (by omega))).mono ?_
  rintro e wn hret
  obtain ⟨Cc, xc, R, rfl, hr8, rx8, gg8⟩ := hret.rch (fun x hx => ((BIA.out.c.mono ((Gr.drew _).trans g8)).2.2 x hx).2); rw [HML.out] at hr8; refine hK _ _ gg8 ?_; clear hK hret; rw [HML.out]; have R8 := Lib.hid hr8; have RX8 := Lib.hid rx8; have G8 : Hid (Gr w7 wn) := ((Gr.drew _).trans g8).trans gg8; clear hr8 rx8 gg8 g8
  go_simp
  refine wpG_c rfl rfl ?_
  intro w9 g9 K hK
  go_simp
  go_at_call 30
  refine ((back34_any Be Bi Bc 32 de 32 di n dc M' w9 (BIB.out.c.mono (G8.out.trans g9)) (by omega))).mono ?_
  rintro e wn hret
  obtain ⟨Dc, yc, R', rfl, hr9, rx9, gg9⟩ := hret.rch (fun x hx => ((BIB.out.c.mono (G8.out.trans g9)).2.2 x hx).2); rw [HML'.out] at hr9; refine hK _ _ gg9 ?_; clear hK hret; rw [HML'.out]; have R9 := Lib.hid hr9; have RX9 := Lib.hid rx9; have R8' := Lib.hid (R8.out.mono (Gr.trans g9 gg9)); have G9 : Hid (Gr w7 wn) := (G8.out.trans g9).trans gg9; clear hr9 rx9 gg9 g9 R8 G8
  go_simp
  have HEE : Hid (R'.map (·.x.l) = R.map (·.x.l)) := by
    have h1 : R'.map (·.x.l) = M'.map BRow.l := by rw [← RX9.out, List.map_map]; rfl
    have h2 : R.map (·.x.l) = M.map BRow.l := by rw [← RX8.out, List.map_map]; rfl
    show _ = _
    rw [h1, h2]; exact MM.out
  refine wpG_c rfl rfl ?_
  intro w10 g10 K hK
  go_simp
  go_at_call 29
  refine ((same34_yes Ae Be Ai Bi Cc Dc 32 ce 32 de 32 ci 32 di n xc yc ex ini R R' w10 (BIA.out.e.mono (G9.out.trans g10)) (BIB.out.e.mono (G9.out.trans g10)) (BIA.out.i.mono (G9.out.trans g10)) (BIB.out.i.mono (G9.out.trans g10)) (R8'.out.mono g10) (R9.out.mono g10) HEE.out (by omega))).mono ?_
  rintro e wn ⟨rfl, gg10⟩
  refine hK _ _ gg10 ?_; clear hK; have G10 : Hid (Gr w7 wn) := (G9.out.trans g10).trans gg10; clear g10 gg10 G9
  go_simp
  refine wpG_pe rfl rfl ?_
  apply Exists.intro
  refine ⟨fun wq => ?_, ?_⟩
  · unfold plainAt
    go_simp
    first | exact rfl | exact ⟨rfl, rfl⟩
  go_simp
  refine wpG_pe rfl rfl ?_
  apply Exists.intro
  refine ⟨fun wq => ?_, ?_⟩
  · unfold plainAt
    go_simp
    first | exact rfl | exact ⟨rfl, rfl⟩
  go_simp
  refine wpG_nil ?_
  intro w11 g11
  have B11 := Lib.hid (BIA.out.gr (G10.out.trans g11)); have G11 : Hid (Below w.heap.size w w11) := HB7.out.trans ((G10.out.trans g11).mono' HB7.out.size)
  clear g11 G10 R8' R9 RX8 RX9 HEE BIA BIB CA CB HML' MM
  go_wp2_with fail
  go_loopw [10] (fun i wr => ∃ k : Nat, k ≤ n ∧ i = .int .i64 (k : Int) ∧ Bir wr pa n Ae Ai Ac ce ci cc ex ini M ∧ Below w.heap.size w wr) (fun i _ => n - (Go.RowKit.intOf i).toNat)
  case atStart => exact ⟨0, Nat.zero_le _, rfl, B11.out, G11.out⟩
  case round =>
    obtain ⟨k, hk, rfl, bir, gr⟩ := hrel
    have BR := Lib.hid bir; have GR := Lib.hid gr
    clear bir gr
    by_cases hlt : k < n
    · have hlt2 : (k : Int) < n := by omega
      go_wp2_with fail
      go_loopw [11] (fun i wj => ∃ j : Nat, j ≤ k ∧ i = .int .i64 (j : Int) ∧ Bir wj pa n Ae Ai Ac ce ci cc ex ini M ∧ Below w.heap.size w wj) (fun i _ => k - (Go.RowKit.intOf i).toNat)
      case atStart => exact ⟨0, Nat.zero_le _, rfl, BR.out, GR.out⟩
      case round =>
        obtain ⟨j, hj, rfl, bir, gr⟩ := hrel
        have BJ := Lib.hid bir; have GJ := Lib.hid gr
        have x2 : wr.cell? ⟨pa, 2, none⟩ = some (.slice Ac n cc) := (bir.blk.cell 2).trans rfl
        by_cases hjl : j < k
        · obtain ⟨b, o, xa, xc, xl, rfl, hx, _, e1, _, hbx⟩ := bir.c.row hlt
          obtain ⟨b', o', ya, yc, yl, e, hy, _, f1, _, hby⟩ := bir.c.row (show j < n by omega)
          injection e with e
          injection e with e3 e4
          subst e3 e4
          have hne : (xl == yl) = false := by
            rw [beq_eq_false_iff_ne]
            intro h
            have hkl : k < (M.map BRow.l).length := by rw [List.length_map, HML.out]; exact hlt
            have hjl' : j < (M.map BRow.l).length := by rw [List.length_map, HML.out]; omega
            have g1 : (M.map BRow.l)[k] = xl := Option.some.inj ((List.getElem?_eq_getElem hkl).symm.trans (by rw [List.getElem?_map, hx]; rfl))
            have g2 : (M.map BRow.l)[j] = yl := Option.some.inj ((List.getElem?_eq_getElem hjl').symm.trans (by rw [List.getElem?_map, hy]; rfl))
            exact (List.pairwise_iff_getElem.1 ND.out) j k hjl' hkl hjl (by rw [g1, g2, h])
          have CF : Hid (∀ wq, Below wr.heap.size wr wq → wq.cell? ⟨pa, 2, none⟩ = some (.slice (some ⟨b, o, none⟩) n cc) ∧ wq.cell? ⟨b, o + k * 3 + 1, none⟩ = some (.slice xa 32 xc) ∧ wq.cell? ⟨b, o + j * 3 + 1, none⟩ = some (.slice ya 32 yc)) := fun wq hq =>
            have c : ∀ p u, wr.cell? p = some u → wq.cell? p = some u := fun p u hc => (hq.cell (World.block_lt_of_cell? wr _ hc)).trans hc
            ⟨c _ _ x2, c _ _ e1, c _ _ f1⟩
          have HSM : Hid (∀ wq, Below wr.heap.size wr wq → Calls Tryd.prog 31 #[.slice xa 32 xc, .slice ya 32 yc] wq fun e w' => e = .returned (.bool false) ∧ Below wr.heap.size wr w') := fun wq hq => by
            refine (refSame_b xa ya 32 32 xc yc xl yl wq (hbx.mono hq) (hby.mono hq)).mono ?_
            rintro e w2 ⟨he, hbb⟩
            rw [hne] at he
            exact ⟨he, below_both hq hbb⟩
          have hjk2 : (j : Int) < k := by omega
          have hjn2 : (j : Int) < n := by omega
          have p0' : (0 : Int) ≤ k := by omega
          have p1' : (0 : Int) ≤ j := by omega
          clear hx hy e1 f1 hbx hby hne bir gr x2
          go_upto_region 15 with fail
          refine wp_region_quiet (C := fun w' => Below (wr).heap.size (wr) w') (by kernel_rfl) (by kernel_rfl) (Below.refl _ _).drew ?_
          simp only
          repeat (first
            | go_big_quiet_skip
            | (go_big_quiet_want
               apply Exists.intro
               refine ⟨fun wq hq => ?_, ?_⟩
               · (obtain ⟨q1, q2, q3⟩ := CF.out wq hq
                  go_simp
                  first
                    | done
                    | exact rfl
                    | (with_reducible exact ⟨rfl, rfl⟩)
                    | (go_at_call 31; exact HSM.out wq hq))
               go_simp
               go_big_quiet_on))
          refine wpQuiet_nil ?_
          intro wq hq
          go_wp2_with fail
          go_roundw
          case rel => exact ⟨j + 1, by omega, by go_num, BJ.out.gr hq, GJ.out.trans (Below.mono hq GJ.out.size)⟩
          case measure => simp [Go.RowKit.intOf]; omega
        · obtain rfl : j = k := by omega
          clear bir gr x2
          go_wp2_with fail
          go_roundw
          case rel => exact ⟨j + 1, by omega, by go_num, BJ.out, GJ.out⟩
          case measure => simp [Go.RowKit.intOf]; omega
    · obtain rfl : k = n := by omega
      have x0 : wr.cell? ⟨pa, 0, none⟩ = some (.slice Ae 32 ce) := (BR.out.blk.cell 0).trans rfl
      have x1 : wr.cell? ⟨pa, 1, none⟩ = some (.slice Ai 32 ci) := (BR.out.blk.cell 1).trans rfl
      have HS := Lib.hid (refSame_b Ae Ai 32 32 ce ci ex ini wr BR.out.e BR.out.i)
      rw [beq_eq_false_iff_ne.2 NE.out] at HS
      go_wp2_with fail
      refine HS.out.mono ?_
      rintro e w12 ⟨rfl, g12⟩
      have G12 : Hid (Gr wr w12) := g12
      clear g12 x0 x1 HS
      go_wp2_with fail
      refine (HAL.out w12 (GR.out.trans (G12.out.mono' GR.out.size))).mono ?_
      rintro e w13 ⟨rfl, g13⟩
      have G13 := Lib.hid g13; clear g13
      go_wp2_with fail
      go_ret
      exact ⟨rfl, (GR.out.trans (G12.out.mono' GR.out.size)).trans (G13.out.mono' (Nat.le_trans GR.out.size G12.out.size))⟩
end Go.Proofs.YthlnoaalhojphaaDoor
