/- ObEpZ, ObEpV: one text. No condition. -/
import Derived.Test.YthlnoaalhojphaaGreatDoorObEpW
import Derived.Test.YthlnoaalhojphaaGreatDoorObKnowM
import Derived.Deep.DeepMust
import Derived.Deep.DeepCutAuto
import Derived.Deep.RegionLaw
import Derived.WalkLawsBesides
import Derived.Outline
/- Epochs of terms, one behind the other: who derives what, in plain Lean. No condition. -/
namespace Go.Proofs.YthlnoaalhojphaaGreatDoor
open Go.RowKit
set_option linter.unusedVariables false
/-- What was learned behind the first i of these ids, all but the k-th. -/
def lrn (T : List Nd) (ids : List Nat) (k : Nat) : Nat → List Int
  | 0 => []
  | i + 1 => if i = k then lrn T ids k i else lrn T ids k i ++ okIds T [((ids.getD i 0 : Nat) : Int)]
theorem lrn_out (T : List Nd) (ids : List Nat) (k : Nat) : ∀ i, ∀ x ∈ lrn T ids k i, outside T.length x = false
  | 0, x, h => by cases h
  | i + 1, x, h => by
    unfold lrn at h
    split at h
    · exact lrn_out T ids k i x h
    · rcases List.mem_append.1 h with h | h
      · exact lrn_out T ids k i x h
      · exact okIds_in x h
def T1 : List Nd := (atomT []).1
def apR (n : Nat) : List Nd × Brt := firstF dvT labC T1 (handleL 1) n
def apQ (n : Nat) : List Nd × Brt := nextF dvT mxT labC (atomT (apR n).1).1 (apR n).2.ini (handleL (atomT (apR n).1).2) n
def apRow (n : Nat) : List (List UInt8) := (apR n).2.ex :: (apR n).2.ini :: (apR n).2.ch
def apIds (n : Nat) : List Nat := (apRow n).map (termB (apQ n).1)
def apOk (n k : Nat) : Bool :=
  let T := (apQ n).1
  let ids := apIds n
  let d := allL T (lrn T ids k (n + 2))
  let c := (apQ n).2
  ((List.range (n + 2)).all fun i => dAt d (ids.getD i 0) == !(i == k)) && !dAt d (termB T c.ex) && !dAt d (termB T c.ini) && !dAt d (termB T (c.ch.getD 0 [])) && decide (T.length ≤ 900) && decide ((apR n).1.length ≤ 900)
set_option maxRecDepth 100000 in
theorem apart1 : (apOk 1 0 && apOk 1 1 && apOk 1 2) = true := by decide +kernel
set_option maxRecDepth 100000 in
theorem apart2 : (apOk 2 0 && apOk 2 1 && apOk 2 2 && apOk 2 3) = true := by decide +kernel
set_option maxRecDepth 100000 in
theorem apart3 : (apOk 3 0 && apOk 3 1 && apOk 3 2 && apOk 3 3 && apOk 3 4) = true := by decide +kernel
set_option maxRecDepth 100000 in
theorem apart4 : (apOk 4 0 && apOk 4 1 && apOk 4 2 && apOk 4 3 && apOk 4 4 && apOk 4 5) = true := by decide +kernel
theorem apart_of (n k : Nat) (h1 : 1 ≤ n) (h4 : n ≤ 4) (hk : k ≤ n + 1) : apOk n k = true := by
  have a := apart1; have b := apart2; have c := apart3; have d := apart4
  simp only [Bool.and_eq_true] at a b c d
  match n, h1, h4 with
  | 1, _, _ => match k, hk with
    | 0, _ => exact a.1.1
    | 1, _ => exact a.1.2
    | 2, _ => exact a.2
    | _ + 3, h => omega
  | 2, _, _ => match k, hk with
    | 0, _ => exact b.1.1.1
    | 1, _ => exact b.1.1.2
    | 2, _ => exact b.1.2
    | 3, _ => exact b.2
    | _ + 4, h => omega
  | 3, _, _ => match k, hk with
    | 0, _ => exact c.1.1.1.1
    | 1, _ => exact c.1.1.1.2
    | 2, _ => exact c.1.1.2
    | 3, _ => exact c.1.2
    | 4, _ => exact c.2
    | _ + 5, h => omega
  | 4, _, _ => match k, hk with
    | 0, _ => exact d.1.1.1.1.1
    | 1, _ => exact d.1.1.1.1.2
    | 2, _ => exact d.1.1.1.2
    | 3, _ => exact d.1.1.2
    | 4, _ => exact d.1.2
    | 5, _ => exact d.2
    | _ + 6, h => omega
/-- What follows of it. -/
structure ApF (n k : Nat) (T : List Nd) (b c : Brt) : Prop where
  row : ∀ i, i < n + 2 → dAt (allL T (lrn T ((b.ex :: b.ini :: b.ch).map (termB T)) k (n + 2))) (((b.ex :: b.ini :: b.ch).map (termB T)).getD i 0) = decide (i ≠ k)
  e : dAt (allL T (lrn T ((b.ex :: b.ini :: b.ch).map (termB T)) k (n + 2))) (termB T c.ex) = false
  i : dAt (allL T (lrn T ((b.ex :: b.ini :: b.ch).map (termB T)) k (n + 2))) (termB T c.ini) = false
  c : dAt (allL T (lrn T ((b.ex :: b.ini :: b.ch).map (termB T)) k (n + 2))) (termB T (c.ch.getD 0 [])) = false
  len : T.length ≤ 900
theorem apF_of {w : World} {p g bm bs : Nat} (n k : Nat) (h1 : 1 ≤ n) (h4 : n ≤ 4) (hk : k ≤ n + 1) (r q : List Nd × Brt) (hr : r = firstS (symSui w p g bm bs) T1 (handleL 1) n) (hq : q = nextS (symSui w p g bm bs) (atomT r.1).1 r.2.ini (handleL (atomT r.1).2) n) :
    ApF n k q.1 r.2 q.2 := by
  have e1 : r = apR n := hr.trans (firstS_F _ _ _ n (by omega))
  have e2 : q = apQ n := by
    subst e1
    exact hq.trans (nextS_F _ _ _ _ n (by omega))
  have h := apart_of n k h1 h4 hk
  unfold apOk apIds apRow at h
  rw [← e1, ← e2] at h
  simp only [Bool.and_eq_true, decide_eq_true_eq, Bool.not_eq_true', List.all_eq_true, List.mem_range, beq_iff_eq] at h
  refine ⟨fun i hi => ?_, h.1.1.1.1.2, h.1.1.1.2, h.1.1.2, h.1.2⟩
  rw [h.1.1.1.1.1 i hi]
  by_cases e : i = k
  · subst e; simp
  · simp [e]
end Go.Proofs.YthlnoaalhojphaaGreatDoor
/- EpochApart walked. No condition. -/
namespace Go.Proofs.YthlnoaalhojphaaGreatDoor
open Go.RowKit
set_option linter.unusedVariables false
theorem SymS.terms {w0 w : World} {p g bm bs : Nat} {T : List Nd} (h : SymS w0 w p g bm bs T) : Calls Tryz.prog 19 #[.pointer (some ⟨p, 0, none⟩)] w fun e w' => e = .returned (.pointer (some ⟨g, 0, none⟩)) ∧ w = w' := by
  have c0 := h.c0
  have HN := Lib.hid h.isNone
  clear h
  go_enter Tryz.func19, Tryz.ntmps19
  go_wp2_with fail
  refine HN.out.mono ?_
  rintro e w1 ⟨rfl, h1⟩
  subst h1
  go_wp2_with fail
  go_ret
  exact ⟨rfl, rfl⟩
/-- What stands behind the second epoch. -/
def MidV (w : World) (p g bm bs n pa : Nat) (Ae Ai Ac : Option Addr) (ce ci cc : Nat) (M : List BRow) (r q : List Nd × Brt) (v8 v9 : Value) (wx : World) : Prop :=
  ∃ (pb : Nat) (Be Bi Bc : Option Addr) (de di dc : Nat) (M' : List BRow), v8 = .pointer (some ⟨pb, 0, none⟩) ∧ v9 = .int .i64 0 ∧ Bir wx pa n Ae Ai Ac ce ci cc r.2.ex r.2.ini M ∧ Bir wx pb n Be Bi Bc de di dc q.2.ex q.2.ini M' ∧ M'.map BRow.l = q.2.ch ∧ SymS w wx p g bm bs q.1
theorem atomT_len (T : List Nd) : (atomT T).1.length = T.length + 1 := by unfold atomT; simp
theorem midV_fin {w w7 wx : World} {p g bm bs n pa pb : Nat} {Ae Ai Ac Be Bi Bc : Option Addr} {ce ci cc de di dc : Nat} {M M' : List BRow} {r q : List Nd × Brt} (oc : OC w7 wx) (bel : Below w.heap.size w7 wx) (chk : ∀ b cs, Blk w7 b 50 cs → Blk wx b 50 cs)
    (hpa : Blk wx pa 30 [.slice Ae 32 ce, .slice Ai 32 ci, .slice Ac n cc]) (hpb : Blk wx pb 30 [.slice Be 32 de, .slice Bi 32 di, .slice Bc n dc])
    (ke : Kp w w7 (.slice Ae 32 ce) r.2.ex) (ki : Kp w w7 (.slice Ai 32 ci) r.2.ini) (ch : Chs w w.heap.size w7 (.slice Ac n cc) M) (hml : M.length = n)
    (ke' : Kp w w7 (.slice Be 32 de) q.2.ex) (ki' : Kp w w7 (.slice Bi 32 di) q.2.ini) (ch' : Chs w w.heap.size w7 (.slice Bc n dc) M') (hml' : M'.length = n) (ml' : M'.map BRow.l = q.2.ch) (st : SymS w w7 p g bm bs q.1) :
    MidV w p g bm bs n pa Ae Ai Ac ce ci cc M r q (.pointer (some ⟨pb, 0, none⟩)) (.int .i64 0) wx := by
  have hb : Below w.heap.size w wx := st.below.trans bel
  obtain ⟨_, _, e, bira⟩ := bir_of hb hb.size hpa (ke.fr (FR.oc oc)) (ki.fr (FR.oc oc)) (ch.far chk (FR.oc oc)) hml
  injection e with e1 e2 e3
  subst e1 e3
  obtain ⟨_, _, e, birb⟩ := bir_of hb hb.size hpb (ke'.fr (FR.oc oc)) (ki'.fr (FR.oc oc)) (ch'.far chk (FR.oc oc)) hml'
  injection e with e1 e2 e3
  subst e1 e3
  exact ⟨pb, Be, Bi, _, de, di, _, M', rfl, rfl, bira, birb, ml', st.oc oc hb⟩
theorem blk_ne {w : World} {b g : Nat} {t t' : TypeId} {cs cs' : List Value} (h : Blk w b t cs) (k : Blk w g t' cs') (hne : t ≠ t') : b ≠ g := by
  rintro rfl
  have h1 : w.heap[b]? = some (.cells cs.toArray t (0, 0)) := h
  have h2 : w.heap[b]? = some (.cells cs'.toArray t' (0, 0)) := k
  rw [h1] at h2
  injection h2 with h2
  injection h2 with _ h2
  exact hne h2
theorem set3_all {w : World} {g : Nat} {t : TypeId} {u0 u1 u2 v0 v1 v2 : Value} (h : Blk w g t [u0, u1, u2]) :
    Blk (((w.setCell ⟨g, 0, none⟩ v0).setCell ⟨g, 1, none⟩ v1).setCell ⟨g, 2, none⟩ v2) g t [v0, v1, v2] ∧ (((w.setCell ⟨g, 0, none⟩ v0).setCell ⟨g, 1, none⟩ v1).setCell ⟨g, 2, none⟩ v2).heap.size = w.heap.size ∧ (∀ b, b ≠ g → (((w.setCell ⟨g, 0, none⟩ v0).setCell ⟨g, 1, none⟩ v1).setCell ⟨g, 2, none⟩ v2).heap[b]? = w.heap[b]?) ∧ ∀ N, N ≤ g → Below N w (((w.setCell ⟨g, 0, none⟩ v0).setCell ⟨g, 1, none⟩ v1).setCell ⟨g, 2, none⟩ v2) :=
  ⟨((h.set 0 _).set 1 _).set 2 _, by simp [World.setCell], fun b hb => (Below.heap_setCell _ ⟨g, 2, none⟩ _ b hb).trans ((Below.heap_setCell _ ⟨g, 1, none⟩ _ b hb).trans (Below.heap_setCell _ ⟨g, 0, none⟩ _ b hb)), fun N hN => (((Below.refl _ _).setCell (p := ⟨g, 0, none⟩) hN _).setCell (p := ⟨g, 1, none⟩) hN _).setCell (p := ⟨g, 2, none⟩) hN _⟩
set_option maxRecDepth 100000 in
set_option maxHeartbeats 4000000 in
theorem epochApart_walk (snd without : Int) (w : World) (hs : -9223372036854775808 ≤ snd ∧ snd ≤ 9223372036854775807) (hs2 : -9223372036854775808 ≤ without ∧ without ≤ 9223372036854775807) (hK : ShaK w) :
    Calls Tryz.prog 4 #[.int .i64 snd, .int .i64 without] w fun e w' => e = .returned (.bool true) ∧ Below w.heap.size w w' := by
  have HAL : Hid (∀ W, Gr w W → Calls Tryz.prog 5 #[] W fun e w' => e = .returned (.bool true) ∧ Gr W w') := fun W hW => alive34 W (hK.mono hW)
  clear hK
  by_cases h1 : snd < 1
  · skip
    go_enter Tryz.func4, Tryz.ntmps4
    go_wp2_with fail
    refine (HAL.out w (Gr.refl _)).mono ?_
    rintro e w1 ⟨rfl, g1⟩
    have G1 := Lib.hid g1; clear g1
    go_wp2_with fail
    go_ret
    exact ⟨rfl, G1.out⟩
  by_cases h2 : 4 < snd
  · skip
    go_enter Tryz.func4, Tryz.ntmps4
    go_wp2_with fail
    refine (HAL.out w (Gr.refl _)).mono ?_
    rintro e w1 ⟨rfl, g1⟩
    have G1 := Lib.hid g1; clear g1
    go_wp2_with fail
    go_ret
    exact ⟨rfl, G1.out⟩
  by_cases h3 : without < 0
  · skip
    go_enter Tryz.func4, Tryz.ntmps4
    go_wp2_with fail
    refine (HAL.out w (Gr.refl _)).mono ?_
    rintro e w1 ⟨rfl, g1⟩
    have G1 := Lib.hid g1; clear g1
    go_wp2_with fail
    go_ret
    exact ⟨rfl, G1.out⟩
  have hwr : IntKind.i64.wrap (snd + 1) = snd + 1 := IntWalk.i64_in _ (by omega)
  by_cases h4 : snd + 1 < without
  · skip
    go_enter Tryz.func4, Tryz.ntmps4
    go_wp2_with fail
    refine (HAL.out w (Gr.refl _)).mono ?_
    rintro e w1 ⟨rfl, g1⟩
    have G1 := Lib.hid g1; clear g1
    go_wp2_with fail
    go_ret
    exact ⟨rfl, G1.out⟩
  obtain ⟨n, rfl⟩ : ∃ n : Nat, snd = n := ⟨snd.toNat, by omega⟩
  obtain ⟨k, rfl⟩ : ∃ k : Nat, without = k := ⟨without.toNat, by omega⟩
  have hn1 : 1 ≤ n := by omega
  have hn4 : n ≤ 4 := by omega
  have hkn : k ≤ n + 1 := by omega
  clear hs hs2
  go_enter Tryz.func4, Tryz.ntmps4
  go_wp2_with fail
  refine (symbolic_any w).mono ?_
  rintro e w1 ⟨p, g, bm, bs, rfl, s1, hp⟩
  have S1 := Lib.hid s1; clear s1 hp
  go_wp2_with fail
  refine (S1.out.draw (by decide)).mono ?_
  rintro e w2 ⟨v1, rfl, o2, s2, f2⟩
  obtain ⟨A1, c1, rfl, _⟩ := o2.slice
  have K1 : Hid (Kp w w2 (.slice A1 32 c1) (handleL 1)) := Kp.own o2 (handleL_len _).symm
  have ST2 : Hid ((symSui w p g bm bs).St w2 T1 (n + 10 + n + 3)) := ⟨s2, by show 1 + 3 * (n + 10 + n + 3) ≤ 990; omega⟩
  have hb2 : Below w.heap.size w w2 := s2.below
  clear o2 s2 f2 S1
  go_wp2_with fail
  refine (epFirst_any (symSui w p g bm bs) T1 (n + 10) n (.slice A1 32 c1) (handleL 1) hn1 hn4 ST2.out K1.out (handleL_len _)).mono ?_
  rintro e w3 ⟨ve, vi, vc, M, rfl, ke, ki, ch, ml, st, fs⟩
  obtain ⟨Ae, ce, rfl⟩ := ke.sl (Sui.dvLen _ _ _ _)
  obtain ⟨Ai, ci, rfl⟩ := ki.sl (Sui.dvLen _ _ _ _)
  obtain ⟨Ac, cc, rfl⟩ := ch.sl
  obtain ⟨r, hr⟩ : ∃ r, r = firstS (symSui w p g bm bs) T1 (handleL 1) n := ⟨_, rfl⟩
  rw [← hr] at ke ki ml st
  have HR := Lib.hid hr
  have hml : M.length = n := by
    have h := congrArg List.length ml
    rw [List.length_map, hr] at h
    exact h.trans (chS_len (symSui w p g bm bs) _ _ n)
  rw [hml] at ch ⊢
  have HML := Lib.hid hml
  have hini : r.2.ini.length = 32 := by rw [hr]; exact Sui.dvLen _ _ _ _
  have HINI := Lib.hid hini
  have GA : Hid (Gr w3 (w3.alloc (.cells #[.slice Ae 32 ce, .slice Ai 32 ci, .slice Ac n cc] 30))) := Gr.alloc _ _
  have BA : Hid (Blk (w3.alloc (.cells #[.slice Ae 32 ce, .slice Ai 32 ci, .slice Ac n cc] 30)) w3.heap.size 30 [.slice Ae 32 ce, .slice Ai 32 ci, .slice Ac n cc]) := Blk.new _ _ _
  have KE := Lib.hid (ke.fr (FR.gr GA.out)); have KI := Lib.hid (ki.fr (FR.gr GA.out)); have CH := Lib.hid ((ch.less hb2.size).fs (FS.gr GA.out)); have ML := Lib.hid ml; have ST4 := Lib.hid ((symSui w p g bm bs).gr st GA.out)
  clear ke ki ch ml st fs hr hml hini
  obtain ⟨pa, hpa⟩ : ∃ pa, pa = w3.heap.size := ⟨_, rfl⟩
  rw [← hpa] at BA
  have HPA := Lib.hid hpa; clear hpa
  go_upto_region 5 with fail
  rw [← HPA.out]
  generalize hw5 : w3.alloc (.cells #[.slice Ae 32 ce, .slice Ai 32 ci, .slice Ac n cc] 30) = w5 at *
  obtain ⟨q, hq⟩ : ∃ q, q = nextS (symSui w p g bm bs) (atomT r.1).1 r.2.ini (handleL (atomT r.1).2) n := ⟨_, rfl⟩
  have HQ := Lib.hid hq; clear hq
  go_cut [8, 9] (fun v8 v9 wx => MidV w p g bm bs n pa Ae Ai Ac ce ci cc M r q v8 v9 wx)
  case first =>
    have x1 : w5.cell? ⟨pa, 1, none⟩ = some (.slice Ai 32 ci) := (BA.out.cell 1).trans rfl
    have x1' : (w5.alloc (.cells #[.slice none 0 0, .slice none 0 0, .slice none 0 0] 30)).cell? ⟨pa, 1, none⟩ = some (.slice Ai 32 ci) := (((Gr.alloc w5 _).blk BA.out).cell 1).trans rfl
    have HLEN : Hid (r.1.length + 3 * (n + 10) ≤ 990) := ST4.out.2
    have HAL1 := Lib.hid (atomT_len r.1)
    have SY5 : Hid (SymS w w5 p g bm bs r.1) := ST4.out.1
    have N1 : Hid (∀ W : World, Blk (W.alloc (.cells #[.slice none 0 0, .slice none 0 0, .slice none 0 0] 30)) W.heap.size 30 [.slice none 0 0, .slice none 0 0, .slice none 0 0]) := fun W => Blk.new W _ _
    have HZ5 : Hid (w.heap.size ≤ w5.heap.size ∧ pa < w5.heap.size) := ⟨SY5.out.below.size, BA.out.lt⟩
    go_region_law (first
      | (go_simp; go_at_call 17; refine ((SY5.out.gr (by first | exact Gr.drew _ | exact (Gr.alloc _ _).trans (Gr.drew _))).draw (by have := HLEN.out; omega)).mono ?_; rintro e w6 ⟨v6, rfl, o6, s6, f6⟩; have F6 : Hid (FS _ w6) := f6; have F56 : Hid (FS w5 w6) := (by first | exact (FS.gr (Gr.drew _)).trans f6 | exact (FS.gr ((Gr.alloc _ _).trans (Gr.drew _))).trans f6); have S6 := Lib.hid s6; have K6 := Lib.hid (Kp.own o6 (handleL_len _).symm); obtain ⟨A6, c6, rfl, _⟩ := o6.slice; have x1 : w6.cell? ⟨pa, 1, none⟩ = some (.slice Ai 32 ci) := ((F56.out _ _ _ (by decide) (by decide) (by decide) BA.out).cell 1).trans rfl; have x1a : (w6.alloc (.cells #[.slice none 0 0, .slice none 0 0, .slice none 0 0] 30)).cell? ⟨pa, 1, none⟩ = some (.slice Ai 32 ci) := (((Gr.alloc w6 _).blk (F56.out _ _ _ (by decide) (by decide) (by decide) BA.out)).cell 1).trans rfl; clear o6 s6 f6)
      | (go_simp; go_at_call 8; refine (epNext_any (symSui w p g bm bs) (atomT r.1).1 0 n (.slice Ai 32 ci) (.slice A6 32 c6) r.2.ini (handleL (atomT r.1).2) hn1 hn4 (by first | exact ⟨S6.out, by have := HLEN.out; have := HAL1.out; omega⟩ | exact ⟨S6.out.gr (Gr.alloc _ _), by have := HLEN.out; have := HAL1.out; omega⟩) (by first | exact KI.out.fr (FR.fs F56.out) | exact KI.out.fr (FR.fs (F56.out.trans (FS.gr (Gr.alloc _ _))))) (by first | exact K6.out | exact K6.out.fr (FR.gr (Gr.alloc _ _))) HINI.out (handleL_len _)).mono ?_; rintro e w7 ⟨ve', vi', vc', M', rfl, ke', ki', ch', ml', st', fs'⟩; rw [← HQ.out] at ke' ki' ml' st'; obtain ⟨Be, de, rfl⟩ := ke'.sl (by rw [HQ.out] <;> exact Sui.dvLen _ _ _ _); obtain ⟨Bi, di, rfl⟩ := ki'.sl (by rw [HQ.out] <;> exact Sui.dvLen _ _ _ _); obtain ⟨Bc, dc, rfl⟩ := ch'.sl; have hml' : M'.length = n := (by have h := congrArg List.length ml'; rw [List.length_map, HQ.out] at h; exact h.trans (nextS_len (symSui w p g bm bs) _ _ _ n)); rw [hml'] at ch' ⊢;
          have F67 : Hid (FS w6 w7) := (by first | exact fs' | exact (FS.gr (Gr.alloc _ _)).trans fs'); have F57 : Hid (FS w5 w7) := F56.out.trans F67.out; have CH7' := Lib.hid (ch'.less (by first | exact S6.out.below.size | exact Nat.le_trans S6.out.below.size (Gr.alloc w6 _).size)); have KE7' := Lib.hid ke'; have KI7' := Lib.hid ki'; have ML7' := Lib.hid ml'; have ST7 : Hid (SymS w w7 p g bm bs q.1) := st'.1; have HML7' := Lib.hid hml'; have PA7 := Lib.hid (F57.out _ _ _ (by decide) (by decide) (by decide) BA.out);
          (first
            | (have BK := Lib.hid (fs' _ _ _ (by decide) (by decide) (by decide) (N1.out w6)); have HG : Hid (pa < w6.heap.size ∧ w.heap.size ≤ w6.heap.size) := ⟨(F56.out _ _ _ (by decide) (by decide) (by decide) BA.out).lt, S6.out.below.size⟩)
            | (have BK := Lib.hid (F67.out _ _ _ (by decide) (by decide) (by decide) (F6.out _ _ _ (by decide) (by decide) (by decide) ((Gr.drew _).blk (N1.out w5)))); have HG : Hid (pa < w5.heap.size ∧ w.heap.size ≤ w5.heap.size) := ⟨HZ5.out.2, HZ5.out.1⟩)
            | have BK : Hid True := trivial);
          (first
            | (have z0 := BK.out.cell 0; have z1 := BK.out.cell 1; have z2 := BK.out.cell 2; have y0 := BK.out.free 0; have y1 := BK.out.free 1; have y2 := BK.out.free 2)
            | skip); clear ke' ki' ch' ml' st' fs' hml' x1 x1a))
    all_goals
      go_wp2_with fail
      go_meet
      case rel =>
        first
          | exact midV_fin (OC.gr (Gr.alloc _ _)) ((Gr.alloc w7 _).mono' ST7.out.below.size) (fun b cs h => (Gr.alloc w7 _).blk h) ((Gr.alloc w7 _).blk PA7.out) (Blk.new w7 _ _) (KE.out.fr (FR.fs F57.out)) (KI.out.fr (FR.fs F57.out)) (CH.out.fs F57.out) HML.out KE7'.out KI7'.out CH7'.out HML7'.out ML7'.out ST7.out
          | exact midV_fin (OC.one (.inr (.inl rfl)) BK.out (Nat.le_of_eq (set3_all BK.out).2.1.symm) (fun b _ h => (set3_all BK.out).2.2.1 b h)) ((set3_all BK.out).2.2.2 _ HG.out.2) (fun b cs h => ((set3_all BK.out).2.2.1 b (blk_ne h BK.out (by decide))).trans h) (((set3_all BK.out).2.2.1 pa (Nat.ne_of_lt HG.out.1)).trans PA7.out) (set3_all BK.out).1 (KE.out.fr (FR.fs F57.out)) (KI.out.fr (FR.fs F57.out)) (CH.out.fs F57.out) HML.out KE7'.out KI7'.out CH7'.out HML7'.out ML7'.out ST7.out
  case rest =>
    obtain ⟨pb, Be, Bi, Bc, de, di, dc, M', rfl, rfl, bira, birb, ml', sy⟩ := hcut
    have hF := apF_of n k hn1 hn4 hkn r q HR.out HQ.out
    clear HR HQ KE KI CH ST4 ST2 BA GA K1 HINI
    generalize q.1 = T at *
    generalize q.2 = cb at *
    generalize r.2 = bb at *
    obtain ⟨rows, hrows⟩ : ∃ rows : List BRow, rows = ⟨Ae, 32, ce, bb.ex⟩ :: ⟨Ai, 32, ci, bb.ini⟩ :: M := ⟨_, rfl⟩
    have hrl : rows.map BRow.l = bb.ex :: bb.ini :: bb.ch := by rw [hrows, ← ML.out]; rfl
    have HBS : Hid (∀ x ∈ rows, Bs wc x.a x.n x.c x.l) := fun x hx => by
      rw [hrows] at hx
      rcases List.mem_cons.1 hx with rfl | hx
      · exact bira.e
      · rcases List.mem_cons.1 hx with rfl | hx
        · exact bira.i
        · exact (bira.c.2.2 x hx).2
    have HRN : Hid (rows.length = n + 2) := by show _ = _; rw [hrows, List.length_cons, List.length_cons, HML.out]
    have HR0 : Hid (rows.take 2 = [⟨Ae, 32, ce, bb.ex⟩, ⟨Ai, 32, ci, bb.ini⟩]) := by show _ = _; rw [hrows]; rfl
    have HRJ : Hid (∀ j : Nat, rows[j + 2]? = M[j]?) := fun j => by rw [hrows]; rfl
    have HRL := Lib.hid hrl
    have HC0 : Hid (∃ ba oa xa xc xl, Bc = some ⟨ba, oa, none⟩ ∧ xl = cb.ch.getD 0 [] ∧ wc.cell? ⟨ba, oa + 1, none⟩ = some (.slice xa 32 xc) ∧ Bs wc xa 32 xc xl) := by
      obtain ⟨b, o, xa, xc, xl, e, hx, _, e1, _, hb⟩ := birb.c.row (k := 0) (by omega)
      refine ⟨b, o, xa, xc, xl, e, ?_, by simpa using e1, hb⟩
      rw [← ml', List.getD_eq_getElem?_getD, List.getElem?_map, hx]
      rfl
    have BA := Lib.hid bira; have BB := Lib.hid birb; have SY := Lib.hid sy; have HF := Lib.hid hF
    have HNN : ((n : Int) != (n : Int)) = false := by simp
    have x0 : wc.cell? ⟨pa, 0, none⟩ = some (.slice Ae 32 ce) := (bira.blk.cell 0).trans rfl
    have x1 : wc.cell? ⟨pa, 1, none⟩ = some (.slice Ai 32 ci) := (bira.blk.cell 1).trans rfl
    have x2 : wc.cell? ⟨pa, 2, none⟩ = some (.slice Ac n cc) := (bira.blk.cell 2).trans rfl
    have z2 : wc.cell? ⟨pb, 2, none⟩ = some (.slice Bc n dc) := (birb.blk.cell 2).trans rfl
    have OW0 : Hid (Own wc (wc.alloc (.cells #[.slice Ae 32 ce, .slice Ai 32 ci] 22)) 22 1 (.slice (some ⟨wc.heap.size, 0, none⟩) 2 2) 2 ((rows.take 2).map BRow.v)) := by
      show Own _ _ _ _ _ _ _
      rw [HR0.out]
      exact Blk.own (cs := [.slice Ae 32 ce, .slice Ai 32 ci]) (Blk.new wc _ _) (Nat.le_refl _) (Gr.alloc _ _) rfl (by decide)
    clear bira birb ml' sy hF hrows hrl
    go_wp2_with fail
    clear x0 x1 x2 z2
    go_loopw [10, 11] (fun v i wr => ∃ j : Nat, j ≤ n ∧ i = .int .i64 (j : Int) ∧ Own wc wr 22 1 v (j + 2) ((rows.take (j + 2)).map BRow.v)) (fun _ i _ => n - (Go.RowKit.intOf i).toNat)
    case atStart => exact ⟨0, Nat.zero_le _, rfl, OW0.out⟩
    case round =>
      obtain ⟨j, hj, rfl, own⟩ := hrel
      have OW := Lib.hid own
      by_cases hlt : j < n
      · obtain ⟨b, o, xa, xc, xl, rfl, hx, _, e1, _, _⟩ := (BA.out.c.mono own.below).row hlt
        have x2 : wr.cell? ⟨pa, 2, none⟩ = some (.slice (some ⟨b, o, none⟩) n cc) := ((Gr.blk own.below BA.out.blk).cell 2).trans rfl
        have HX := Lib.hid hx
        have hlt2 : (j : Int) < n := by omega
        have p0' : (0 : Int) ≤ j := by omega
        clear own hx
        go_wp2_with (at_builtin; refine wpList_push rfl (.tmp 84) (.tmp 91) 36 rfl tRows rfl OW.out #[.slice xa 32 xc] rfl rfl (by intro u hu; simp at hu; subst hu; rfl) (by omega) ?_; intro v1 w1 own1; have OW1 := Lib.hid own1; clear own1)
        go_roundw
        case rel => exact ⟨j + 1, by omega, by go_num, by
          have h := OW1.out
          rw [show j + 1 + 2 = (j + 2) + 1 by omega, List.take_add_one, HRJ.out, HX.out, List.map_append]
          exact h⟩
        case measure => simp [Go.RowKit.intOf]; omega
      · obtain rfl : j = n := by omega
        obtain ⟨wk, rfl⟩ : ∃ wk, wk = wr := ⟨wr, rfl⟩
        have hown := own
        rw [List.take_of_length_le (by rw [HRN.out]; exact Nat.le_refl _)] at hown
        obtain ⟨A10, c10, rfl, sl⟩ := hown.slice
        have SL := Lib.hid sl; have GR : Hid (Gr wc wk) := hown.below
        have HTM := Lib.hid (SY.out.gr GR.out).terms
        clear own hown sl OW
        go_wp2_with fail
        refine HTM.out.mono ?_
        rintro e w1 ⟨rfl, h1⟩
        subst h1
        clear HTM
        go_wp2_with fail
        refine (Kn1.new wk g T wk (Below.refl _ _)).mono ?_
        rintro e w2 ⟨s, rfl, kn, _, _, _⟩
        have KN := Lib.hid kn; clear kn
        obtain ⟨m, hm⟩ : ∃ m, m = j + 2 := ⟨_, rfl⟩
        obtain ⟨ids, hids⟩ : ∃ ids, ids = (bb.ex :: bb.ini :: bb.ch).map (termB T) := ⟨_, rfl⟩
        have hF := HF.out
        have HIDS : Hid (∀ (i : Nat) (x : BRow), rows[i]? = some x → ids.getD i 0 = termB T x.l) := fun i x hx => by
          rw [hids, ← HRL.out, List.getD_eq_getElem?_getD, List.getElem?_map, List.getElem?_map, hx]
          rfl
        have hrow := hF.row; have hce := hF.e; have hci := hF.i; have hcc := hF.c
        rw [← hids, ← hm] at hrow hce hci hcc
        have HLEN : Hid (T.length ≤ 900) := hF.len
        obtain ⟨L, hL⟩ : ∃ L, L = lrn T ids k m := ⟨_, rfl⟩
        rw [← hL] at hrow hce hci hcc
        obtain ⟨dd, hdd⟩ : ∃ dd, dd = allL T L := ⟨_, rfl⟩
        rw [← hdd] at hrow hce hci hcc
        have SYR := Lib.hid (SY.out.gr GR.out)
        have HROW := Lib.hid hrow; have HCE := Lib.hid hce; have HCI := Lib.hid hci; have HCC := Lib.hid hcc; have HL := Lib.hid hL
        have HTE : Hid (Tells T (InL L) dd) := by rw [hdd]; exact allL_tells SYR.out.i.parts L
        have HKT : Hid (KnT wk g T L) := ⟨SYR.out.rd, SYR.out.i.parts, SYR.out.i.kinds, by have := HLEN.out; omega, by rw [hL]; exact lrn_out T ids k m⟩
        have hm2 : ((j : Int) + 2) = (m : Int) := by omega
        have hm6 : m ≤ 6 := by omega
        have HM := Lib.hid hm
        have HB0 : Hid (Below w.heap.size w wk) := SYR.out.below
        have SLm : Hid (Sl wk A10 m c10 1 (rows.map BRow.v)) := by rw [hm]; exact SL.out
        have TERM : Hid (∀ W A n c b, Gr wk W → Bs W A n c b → Calls Tryz.prog 21 #[.pointer (some ⟨p, 0, none⟩), .slice A n c] W fun e w' => e = .returned (.int .i64 (termB T b : Int)) ∧ Gr W w') := fun W A n c b hW hb => (SYR.out.gr hW).term (by have := HLEN.out; omega) A n c b hb
        rw [← hm]
        clear hF hrow hce hci hcc hids hL hdd SL HF hm2 hm
        go_wp2_with fail
        go_loopw [13] (fun i wt => ∃ (t : Nat) (N : Nat), t ≤ m ∧ i = .int .i64 (t : Int) ∧ N ≤ t ∧ Kn1 wk wt g T s N (lrn T ids k t)) (fun i _ => m - (Go.RowKit.intOf i).toNat)
        case atStart => exact ⟨0, 0, Nat.zero_le _, rfl, Nat.le_refl _, KN.out⟩
        case round =>
          obtain ⟨t, N, ht, rfl, hN, kt⟩ := hrel
          have KT := Lib.hid kt
          have GT : Hid (Gr wk wr) := kt.bel
          by_cases htl : t < m
          · have htl2 : (t : Int) < m := by omega
            have p0' : (0 : Int) ≤ t := by omega
            by_cases htk : t = k
            · subst htk
              have HS : Hid (lrn T ids t (t + 1) = lrn T ids t t) := by show (if t = t then _ else _) = _; rw [if_pos rfl]
              have tne : ((t : Int) != (t : Int)) = false := by simp
              clear kt
              go_wp2_with fail
              go_roundw
              case rel => exact ⟨t + 1, N, by omega, by go_num, by omega, by rw [HS.out]; exact KT.out⟩
              case measure => simp [Go.RowKit.intOf]; omega
            · have tne : ((t : Int) != (k : Int)) = true := bne_iff_ne.2 (by omega)
              have hrlt : t < rows.length := by rw [HRN.out, ← HM.out]; exact htl
              obtain ⟨⟨xa, xn, xc, xl⟩, hx⟩ : ∃ x, rows[t]? = some x := ⟨_, List.getElem?_eq_getElem hrlt⟩
              have HIT := Lib.hid (HIDS.out t _ hx)
              have HS : Hid (lrn T ids k (t + 1) = lrn T ids k t ++ okIds T [(termB T xl : Int)]) := by
                show (if t = k then _ else _) = _
                rw [if_neg htk, HIT.out]
              obtain ⟨b, o, rfl, hcc⟩ := (SLm.out.mono GT.out).addr (by omega)
              have e1 : wr.cell? ⟨b, o + t, none⟩ = some (.slice xa xn xc) := hcc t _ (by rw [List.getElem?_map, hx]; rfl)
              have HTR := Lib.hid (TERM.out wr xa xn xc xl GT.out (((HBS.out _ (List.mem_of_getElem? hx)).mono GR.out).mono GT.out))
              have HTB := Lib.hid (termB_le T xl)
              clear kt hx hcc hrlt
              go_wp2_with fail
              refine HTR.out.mono ?_
              rintro e w4 ⟨rfl, g4⟩
              have K4 := Lib.hid ((KT.out.gr g4).gr (Gr.alloc w4 (.cells #[.int .i64 (termB T xl : Int)] 3)))
              clear g4 e1
              go_wp2_with fail
              refine (K4.out.learn SYR.out.rd SYR.out.i.kinds (is_one w4 (termB T xl : Int)) (fun x hx => by
                obtain rfl := List.mem_singleton.1 hx
                have := HTB.out
                have := HLEN.out
                exact ⟨by omega, by omega⟩) (by omega)).mono ?_
              rintro e w5 ⟨rfl, k5, _⟩
              have K5 := Lib.hid k5; clear k5
              go_wp2_with fail
              go_roundw
              case rel => exact ⟨t + 1, N + 1, by omega, by go_num, by omega, by rw [HS.out]; exact K5.out⟩
              case measure => simp [Go.RowKit.intOf]; omega
          · obtain rfl : t = m := by omega
            rw [← HL.out] at kt
            have KL := Lib.hid kt
            clear kt KT
            go_wp2_with fail
            go_loopw [14] (fun i wt => ∃ u : Nat, u ≤ t ∧ i = .int .i64 (u : Int) ∧ Kn1 wk wt g T s N L) (fun i _ => t - (Go.RowKit.intOf i).toNat)
            case atStart => exact ⟨0, Nat.zero_le _, rfl, KL.out⟩
            case round =>
              obtain ⟨u, hu, rfl, ku⟩ := hrel
              have KU := Lib.hid ku
              have GU : Hid (Gr wk wr) := ku.bel
              by_cases hul : u < t
              · have hul2 : (u : Int) < t := by omega
                have p1' : (0 : Int) ≤ u := by omega
                have hrlt : u < rows.length := by rw [HRN.out, ← HM.out]; exact hul
                obtain ⟨⟨xa, xn, xc, xl⟩, hx⟩ : ∃ x, rows[u]? = some x := ⟨_, List.getElem?_eq_getElem hrlt⟩
                have HIT := Lib.hid (HIDS.out u _ hx)
                have HD : Hid (dAt dd (termB T xl) = decide (u ≠ k)) := by
                  have h := HROW.out u hul
                  rw [HIT.out] at h
                  exact h
                obtain ⟨b, o, rfl, hcc⟩ := (SLm.out.mono GU.out).addr (by omega)
                have e1 : wr.cell? ⟨b, o + u, none⟩ = some (.slice xa xn xc) := hcc u _ (by rw [List.getElem?_map, hx]; rfl)
                have HTR := Lib.hid (TERM.out wr xa xn xc xl GU.out (((HBS.out _ (List.mem_of_getElem? hx)).mono GR.out).mono GU.out))
                have HTB := Lib.hid (termB_le T xl)
                have HDV := Lib.hid (fun W (h : Kn1 wk W g T s N L) => h.derives HKT.out HTE.out (termB T xl) (by have := HTB.out; have := HLEN.out; omega))
                rw [HD.out] at HDV
                clear ku hx hcc hrlt
                clear HD
                by_cases e : u = k
                · subst e
                  have tne : ((u : Int) != (u : Int)) = false := by simp
                  rw [show decide (u ≠ u) = false by simp] at HDV
                  go_wp2_with fail
                  refine HTR.out.mono ?_
                  rintro e w4 ⟨rfl, g4⟩
                  have K4 := Lib.hid (KU.out.gr g4)
                  clear g4 e1
                  go_wp2_with fail
                  refine (HDV.out w4 K4.out).mono ?_
                  rintro e w5 ⟨rfl, k5, _⟩
                  have K5 := Lib.hid k5; clear k5
                  go_wp2_with fail
                  go_roundw
                  case rel => exact ⟨u + 1, by omega, by go_num, K5.out⟩
                  case measure => simp [Go.RowKit.intOf]; omega
                · have tne : ((u : Int) != (k : Int)) = true := bne_iff_ne.2 (by omega)
                  rw [decide_eq_true e] at HDV
                  go_wp2_with fail
                  refine HTR.out.mono ?_
                  rintro e w4 ⟨rfl, g4⟩
                  have K4 := Lib.hid (KU.out.gr g4)
                  clear g4 e1
                  go_wp2_with fail
                  refine (HDV.out w4 K4.out).mono ?_
                  rintro e w5 ⟨rfl, k5, _⟩
                  have K5 := Lib.hid k5; clear k5
                  go_wp2_with fail
                  go_roundw
                  case rel => exact ⟨u + 1, by omega, by go_num, K5.out⟩
                  case measure => simp [Go.RowKit.intOf]; omega
              · obtain rfl : u = t := by omega
                have y0 : wr.cell? ⟨pb, 0, none⟩ = some (.slice Be 32 de) := ((GU.out.blk (GR.out.blk BB.out.blk)).cell 0).trans rfl
                have HT1 := Lib.hid (TERM.out wr Be 32 de cb.ex GU.out ((BB.out.e.mono GR.out).mono GU.out))
                have HD1 := Lib.hid (fun W (h : Kn1 wk W g T s N L) => h.derives HKT.out HTE.out (termB T cb.ex) (by have := termB_le T cb.ex; have := HLEN.out; omega))
                rw [HCE.out] at HD1
                have HD2 := Lib.hid (fun W (h : Kn1 wk W g T s N L) => h.derives HKT.out HTE.out (termB T cb.ini) (by have := termB_le T cb.ini; have := HLEN.out; omega))
                rw [HCI.out] at HD2
                have HD3 := Lib.hid (fun W (h : Kn1 wk W g T s N L) => h.derives HKT.out HTE.out (termB T (cb.ch.getD 0 [])) (by have := termB_le T (cb.ch.getD 0 []); have := HLEN.out; omega))
                rw [HCC.out] at HD3
                clear ku
                go_wp2_with fail
                refine HT1.out.mono ?_
                rintro e w4 ⟨rfl, g4⟩
                have K4 := Lib.hid (KU.out.gr g4)
                clear g4 y0 HT1
                go_wp2_with fail
                refine (HD1.out w4 K4.out).mono ?_
                rintro e w5 ⟨rfl, k5, _⟩
                have K5 := Lib.hid k5
                have G5 : Hid (Gr wk w5) := k5.bel
                clear k5
                have y1 : w5.cell? ⟨pb, 1, none⟩ = some (.slice Bi 32 di) := ((G5.out.blk (GR.out.blk BB.out.blk)).cell 1).trans rfl
                have HT2 := Lib.hid (TERM.out w5 Bi 32 di cb.ini G5.out ((BB.out.i.mono GR.out).mono G5.out))
                go_wp2_with fail
                refine HT2.out.mono ?_
                rintro e w6 ⟨rfl, g6⟩
                have K6 := Lib.hid (K5.out.gr g6)
                clear g6 y1 HT2
                go_wp2_with fail
                refine (HD2.out w6 K6.out).mono ?_
                rintro e w7 ⟨rfl, k7, _⟩
                have K7 := Lib.hid k7
                have G7 : Hid (Gr wk w7) := k7.bel
                clear k7
                obtain ⟨ba, oa, xa, xc, xl, rfl, hxl, hce, hbe⟩ := HC0.out
                have y2 : w7.cell? ⟨pb, 2, none⟩ = some (.slice (some ⟨ba, oa, none⟩) j dc) := ((G7.out.blk (GR.out.blk BB.out.blk)).cell 2).trans rfl
                have y3 : w7.cell? ⟨ba, oa + 1, none⟩ = some (.slice xa 32 xc) := ((GR.out.trans G7.out).cell (World.block_lt_of_cell? wc _ hce)).trans hce
                have HT3 := Lib.hid (TERM.out w7 xa 32 xc (cb.ch.getD 0 []) G7.out (by rw [← hxl]; exact (hbe.mono GR.out).mono G7.out))
                clear hxl hce hbe
                go_wp2_with fail
                refine HT3.out.mono ?_
                rintro e w8 ⟨rfl, g8⟩
                have K8 := Lib.hid (K7.out.gr g8)
                clear g8 y2 y3 HT3
                go_wp2_with fail
                refine (HD3.out w8 K8.out).mono ?_
                rintro e w9 ⟨rfl, k9, _⟩
                have G9 : Hid (Below w.heap.size w w9) := HB0.out.trans (Below.mono k9.bel HB0.out.size)
                clear k9
                go_wp2_with fail
                refine (HAL.out w9 G9.out).mono ?_
                rintro e wz ⟨rfl, gz⟩
                have GZ : Hid (Below w.heap.size w wz) := G9.out.trans (Below.mono gz G9.out.size)
                clear gz
                go_wp2_with fail
                go_ret
                exact ⟨rfl, GZ.out⟩
end Go.Proofs.YthlnoaalhojphaaGreatDoor
