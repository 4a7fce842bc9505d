/- The law KnowMore, walked. No condition. -/
import Derived.Test.YthlnoaalhojphaaObKnowS
import Derived.Outline
namespace Go.Proofs.Ythlnoaalhojphaa
open Go.RowKit
set_option linter.unusedVariables false
/-- What was learned more is derived of what was learned. -/
structure LcOk (T : List Nd) (la lc : List Int) : Prop where
  has : ∀ z ∈ la, z ∈ lc
  inn : ∀ x ∈ lc, outside T.length x = false
  der : ∀ i, InL lc i → Der T (InL la) i
theorem LcOk.refl {T : List Nd} {la : List Int} (h : ∀ x ∈ la, outside T.length x = false) : LcOk T la la := ⟨fun _ h => h, h, fun i hi => by
  have := h _ hi
  unfold outside at this
  simp at this
  exact .know (by omega) (by omega) hi⟩
theorem LcOk.tells {T : List Nd} {la lc : List Int} {d : List Bool} (h : LcOk T la lc) (hd : Tells T (InL la) d) : Tells T (InL lc) d :=
  ⟨hd.1, fun id => (hd.2 id).trans ⟨fun q => q.mono (fun i hi => h.has _ hi), fun q => q.idem h.der⟩⟩
theorem LcOk.step {T : List Nd} {la lc : List Int} {d : List Bool} {k : Nat} (h : LcOk T la lc) (hd : Tells T (InL la) d) (hk : dAt d k = true) : LcOk T la (lc ++ okIds T [(k : Int)]) := by
  refine ⟨fun z hz => List.mem_append_left _ (h.has z hz), fun x hx => ?_, fun i hi => ?_⟩
  · rcases List.mem_append.1 hx with q | q
    · exact h.inn x q
    · exact okIds_in x q
  · rcases List.mem_append.1 hi with q | q
    · exact h.der i q
    · have := (ok_mem.1 q).1
      rw [List.mem_singleton] at this
      have e : i = k := by omega
      rw [e]
      exact (hd.2 k).1 hk
structure Tri (w0 w : World) (g : Nat) (T : List Nd) (a b c : KSt) (Na : Nat) (la : List Int) (Nb : Nat) (lb : List Int) (Nc : Nat) (lc : List Int) : Prop where
  a : Kn1 w0 w g T a Na la
  b : Kn1 w0 w g T b Nb lb
  c : Kn1 w0 w g T c Nc lc
structure Off3 (a b c : KSt) : Prop where
  ab : Off a b
  ac : Off a c
  bc : Off b c
theorem Tri.gr {w0 w w' : World} {g : Nat} {T : List Nd} {a b c : KSt} {Na Nb Nc : Nat} {la lb lc : List Int} (h : Tri w0 w g T a b c Na la Nb lb Nc lc) (hg : Gr w w') : Tri w0 w' g T a b c Na la Nb lb Nc lc := ⟨h.a.gr hg, h.b.gr hg, h.c.gr hg⟩
section
variable {w0 w : World} {g : Nat} {T : List Nd} {a b c : KSt} {Na Nb Nc : Nat} {la lb lc : List Int}
theorem Tri.turnA {w' : World} {N : Nat} {l : List Int} (h : Tri w0 w g T a b c Na la Nb lb Nc lc) (o : Off3 a b c) (t : Tch (KS a.gk a.bk) w w') (ha : Kn1 w0 w' g T a N l) : Tri w0 w' g T a b c N l Nb lb Nc lc := ⟨ha, h.a.other h.b t o.ab, h.a.other h.c t o.ac⟩
theorem Tri.turnB {w' : World} {N : Nat} {l : List Int} (h : Tri w0 w g T a b c Na la Nb lb Nc lc) (o : Off3 a b c) (t : Tch (KS b.gk b.bk) w w') (hb : Kn1 w0 w' g T b N l) : Tri w0 w' g T a b c Na la N l Nc lc := ⟨h.b.other h.a t o.ab.symm, hb, h.b.other h.c t o.bc⟩
theorem Tri.turnC {w' : World} {N : Nat} {l : List Int} (h : Tri w0 w g T a b c Na la Nb lb Nc lc) (o : Off3 a b c) (t : Tch (KS c.gk c.bk) w w') (hc : Kn1 w0 w' g T c N l) : Tri w0 w' g T a b c Na la Nb lb N l := ⟨h.c.other h.a t o.ac.symm, h.c.other h.b t o.bc.symm, hc⟩
end
set_option maxRecDepth 100000 in
set_option maxHeartbeats 2000000 in
theorem knowMore_walk (A B : Option Addr) (n c m e : Nat) (L : List Ac) (ids : List Int) (more : Int) (w : World) (h : Rs Ac.cells 4 w A n c L) (hok : ∀ x ∈ L, x.ok) (hi : Is w B m e ids) (hf : ∀ x ∈ ids, In64 x) (hmo : In64 more) :
    Calls Try.prog 5 #[.slice A n c, .slice B m e, .int .i64 more] w fun e w' => e = .returned (.bool true) ∧ Below w.heap.size w w' := by
  have HLI := Lib.hid (light16_any A B n c m e L w h hok ⟨hi.cap, hi.max⟩)
  have HAL := Lib.hid alive16_any
  by_cases hlt : light16 L m = true
  · rw [hlt] at HLI
    have hsm : lightA L = true ∧ L.length ≤ 30 ∧ m ≤ 20 := by
      unfold light16 at hlt
      simp at hlt
      exact ⟨hlt.1, hlt.2.1, hlt.2.2⟩
    have hln : L.length = n := h.1
    have hMD := made_any A n c L w h hok (by omega)
    have hTG := madeT_all L hok (by omega)
    have TG := Lib.hid hTG; have MD := Lib.hid hMD
    have HI := Lib.hid hi; have HF := Lib.hid hf; have HMO := Lib.hid hmo
    have hm20 := hsm.2.2
    have hcap := hi.cap; have hmax := hi.max
    have hT30 : (madeT L).length ≤ 30 := by have := hTG.l; omega
    generalize madeT L = T at *
    clear h hok hi hf hlt hsm hln hMD hTG hmo
    go_enter Try.func5, Try.ntmps5
    go_wp2_with fail
    refine HLI.out.mono ?_
    rintro e w0 ⟨rfl, rfl⟩
    go_wp2_with fail
    refine MD.out.mono ?_
    rintro e w1 ⟨g, bm, vl, vs, vx, rfl, htw⟩
    have TW := Lib.hid htw; clear htw MD
    obtain ⟨Ax, cx, rfl, hrx⟩ := Own.rs TW.out.r
    have hxc := hrx.cap; have hxm := hrx.max
    have B1 := Lib.hid TW.out.f.below
    have HTR : Hid (TRd w1 g T) := TW.out.f.rd
    have HKT : Hid (∀ l, (∀ x ∈ l, outside T.length x = false) → KnT w1 g T l) := fun l hl => ⟨TW.out.f.rd, TG.out.i.parts, TG.out.i.kinds, by omega, hl⟩
    clear hrx
    obtain ⟨t, hTl⟩ : ∃ t, t = T.length := ⟨_, rfl⟩
    have HTL := Lib.hid hTl
    rw [← hTl] at hT30 hxc ⊢
    clear hTl
    go_wp2_with fail
    refine (Kn1.new w1 g T w1 (Below.refl _ _)).mono ?_
    rintro e w2 ⟨a, rfl, ka, ga, _, _⟩
    have KA := Lib.hid ka; clear ka ga
    go_wp2_with fail
    refine (Kn1.new w1 g T w2 KA.out.bel).mono ?_
    rintro e w3 ⟨b, rfl, kb, gb, hb1, hb2⟩
    have KB := Lib.hid kb
    have KA2 := Lib.hid (KA.out.gr gb)
    have OAB : Hid (Off a b) := ⟨by have := KA.out.lt.1; omega, by have := KA.out.lt.2; omega⟩
    clear kb gb hb1 hb2
    go_wp2_with fail
    refine (Kn1.new w1 g T w3 KB.out.bel).mono ?_
    rintro e w4 ⟨cc, rfl, kc, gc, hc1, hc2⟩
    have O3 : Hid (Off3 a b cc) := ⟨OAB.out, ⟨by have := KA2.out.lt.1; omega, by have := KA2.out.lt.2; omega⟩, ⟨by have := KB.out.lt.1; omega, by have := KB.out.lt.2; omega⟩⟩
    have T4 : Hid (Tri w1 w4 g T a b cc 0 [] 0 [] 0 []) := ⟨KA2.out.gr gc, KB.out.gr gc, kc⟩
    clear kc gc hc1 hc2 KA KB KA2 OAB
    go_wp2_with fail
    refine (T4.out.a.learn HTR.out TG.out.i.kinds (HI.out.mono (below_both B1.out T4.out.a.bel)) HF.out (by omega)).mono ?_
    rintro e w5 ⟨rfl, k5, t5⟩
    have T5 := Lib.hid (T4.out.turnA O3.out t5 k5)
    clear k5 t5
    go_wp2_with fail
    refine (T5.out.b.learn HTR.out TG.out.i.kinds (HI.out.mono (below_both B1.out T5.out.a.bel)) HF.out (by omega)).mono ?_
    rintro e w6 ⟨rfl, k6, t6⟩
    have T6 := Lib.hid (T5.out.turnB O3.out t6 k6)
    clear k6 t6
    go_wp2_with fail
    refine (T6.out.c.learn HTR.out TG.out.i.kinds (HI.out.mono (below_both B1.out T6.out.a.bel)) HF.out (by omega)).mono ?_
    rintro e w7 ⟨rfl, k7, t7⟩
    have T7 := Lib.hid (T6.out.turnC O3.out t7 k7)
    clear k7 t7
    go_wp2_with fail
    refine ((T7.out.gr (Gr.alloc _ (.cells #[.int .i64 more] 3))).b.learn HTR.out TG.out.i.kinds (is_one w7 more) (by intro x hx; rw [List.mem_singleton.1 hx]; exact HMO.out) (by omega)).mono ?_
    rintro e w8 ⟨rfl, k8, t8⟩
    have T8 := Lib.hid ((T7.out.gr (Gr.alloc _ (.cells #[.int .i64 more] 3))).turnB O3.out t8 k8)
    simp only [List.nil_append, Nat.zero_add] at T8
    clear k8 t8 T4 T5 T6 T7
    have HTA := Lib.hid (all_ok TG.out.i.parts ids)
    obtain ⟨d, hd⟩ : ∃ d, d = allL T ids := ⟨_, rfl⟩
    have HTB : Hid (Tells T (InL (okIds T ids ++ okIds T [more])) (allL T (ids ++ [more]))) := by
      have := all_ok TG.out.i.parts (ids ++ [more])
      have e : okIds T (ids ++ [more]) = okIds T ids ++ okIds T [more] := by unfold okIds; rw [List.filter_append]
      rwa [e] at this
    obtain ⟨db, hdb⟩ : ∃ db, db = allL T (ids ++ [more]) := ⟨_, rfl⟩
    rw [← hd] at HTA
    rw [← hdb] at HTB
    have HUP : Hid (∀ k, dAt d k = true → dAt db k = true) := fun k hk => (HTB.out.2 k).2 (((HTA.out.2 k).1 hk).mono fun i hi => List.mem_append_left _ hi)
    have HBI : Hid (∀ x ∈ okIds T ids ++ okIds T [more], outside T.length x = false) := fun x hx => by
      rcases List.mem_append.1 hx with q | q <;> exact okIds_in x q
    clear hd hdb
    go_wp2_with fail
    go_loopw [12] (fun i wr => ∃ (k Nc : Nat) (lc : List Int), 1 ≤ k ∧ k ≤ t + 1 ∧ i = .int .i64 k ∧ Nc ≤ m + k ∧ LcOk T (okIds T ids) lc ∧ Tri w1 wr g T a b cc m (okIds T ids) (m + 1) (okIds T ids ++ okIds T [more]) Nc lc) (fun i _ => t + 1 - (Go.RowKit.intOf i).toNat)
    case atStart => exact ⟨1, m, _, Nat.le_refl _, by omega, rfl, by omega, LcOk.refl okIds_in, T8.out⟩
    case round =>
      obtain ⟨k, Nc, lc, hk1, hkt, rfl, hNc, hlc, htr⟩ := hrel
      have LC := Lib.hid hlc; have TR := Lib.hid htr; clear hlc htr T8
      by_cases hlk : k ≤ t
      · have t0 : decide ((k : Int) ≤ (t : Int)) = true := decide_eq_true (by omega)
        go_wp2_with fail
        refine (TR.out.a.derives (HKT.out _ okIds_in) HTA.out k (by omega)).mono ?_
        rintro e w9 ⟨rfl, k9, t9⟩
        have T9 := Lib.hid (TR.out.turnA O3.out t9 k9)
        clear k9 t9
        cases hdk : dAt d k with
        | false =>
          clear hdk
          go_wp2_with fail
          exact ⟨⟨k + 1, Nc, lc, by omega, by omega, by simp, by omega, LC.out, T9.out⟩, by simp [Go.RowKit.intOf]; omega⟩
        | true =>
          have LC2 := Lib.hid (LC.out.step HTA.out hdk)
          clear hdk
          go_wp2_with fail
          refine ((T9.out.gr (Gr.alloc _ (.cells #[.int .i64 (k : Int)] 3))).c.learn HTR.out TG.out.i.kinds (is_one w9 (k : Int)) (by intro x hx; rw [List.mem_singleton.1 hx]; exact ⟨by omega, by omega⟩) (by omega)).mono ?_
          rintro e w10 ⟨rfl, k10, t10⟩
          have T10 := Lib.hid ((T9.out.gr (Gr.alloc _ (.cells #[.int .i64 (k : Int)] 3))).turnC O3.out t10 k10)
          clear k10 t10
          go_wp2_with fail
          exact ⟨⟨k + 1, Nc + 1, _, by omega, by omega, by simp, by omega, LC2.out, T10.out⟩, by simp [Go.RowKit.intOf]; omega⟩
      · obtain rfl : k = t + 1 := by omega
        have t0 : decide (((t + 1 : Nat) : Int) ≤ (t : Int)) = false := decide_eq_false (by omega)
        have t1 : decide ((t : Int) + 1 ≤ (t : Int)) = false := decide_eq_false (by omega)
        have HTC := Lib.hid (LC.out.tells HTA.out)
        go_wp2_with fail
        clear t0 t1
        go_loopw [13] (fun i wr => ∃ k : Nat, 1 ≤ k ∧ k ≤ t + 1 ∧ i = .int .i64 k ∧ Tri w1 wr g T a b cc m (okIds T ids) (m + 1) (okIds T ids ++ okIds T [more]) Nc lc) (fun i _ => t + 1 - (Go.RowKit.intOf i).toNat)
        case atStart => exact ⟨1, Nat.le_refl _, by omega, rfl, TR.out⟩
        case round =>
          obtain ⟨k, hk1, hkt, rfl, htr⟩ := hrel
          obtain ⟨wx, rfl⟩ : ∃ wx : World, wx = wr := ⟨_, rfl⟩
          have TX := Lib.hid htr; clear htr TR
          by_cases hlk2 : k ≤ t
          · have t0 : decide ((k : Int) ≤ (t : Int)) = true := decide_eq_true (by omega)
            go_wp2_with fail
            refine (TX.out.a.derives (HKT.out _ okIds_in) HTA.out k (by omega)).mono ?_
            rintro e w9 ⟨rfl, k9, t9⟩
            have T9 := Lib.hid (TX.out.turnA O3.out t9 k9)
            clear k9 t9
            have HAD := Lib.hid (fun (wq : World) (hq : Tri w1 wq g T a b cc m (okIds T ids) (m + 1) (okIds T ids ++ okIds T [more]) Nc lc) => hq.a.derives (HKT.out _ okIds_in) HTA.out k (by omega))
            have HBD := Lib.hid (fun (wq : World) (hq : Tri w1 wq g T a b cc m (okIds T ids) (m + 1) (okIds T ids ++ okIds T [more]) Nc lc) => hq.b.derives (HKT.out _ HBI.out) HTB.out k (by omega))
            have HCD := Lib.hid (fun (wq : World) (hq : Tri w1 wq g T a b cc m (okIds T ids) (m + 1) (okIds T ids ++ okIds T [more]) Nc lc) => hq.c.derives (HKT.out _ LC.out.inn) HTC.out k (by omega))
            have hup := HUP.out k
            generalize dAt d k = qa at HAD HCD hup ⊢
            generalize dAt db k = qb at HBD hup
            cases qa with
            | false =>
              clear hup
              go_wp2_with fail
              refine (HAD.out _ T9.out).mono ?_
              rintro e w10 ⟨rfl, k10, t10⟩
              have T10 := Lib.hid (T9.out.turnA O3.out t10 k10)
              clear k10 t10
              go_wp2_with fail
              refine (HCD.out _ T10.out).mono ?_
              rintro e w11 ⟨rfl, k11, t11⟩
              have T11 := Lib.hid (T10.out.turnC O3.out t11 k11)
              clear k11 t11
              go_wp2_with fail
              refine ⟨?_, by simp [Go.RowKit.intOf]; omega⟩
              (repeat apply Exists.intro)
              exact ⟨⟨k + 1, by omega, by omega, by simp, T11.out⟩, rfl⟩
            | true =>
              obtain rfl : qb = true := hup rfl
              clear hup
              go_wp2_with fail
              refine (HBD.out _ T9.out).mono ?_
              rintro e w10 ⟨rfl, k10, t10⟩
              have T10 := Lib.hid (T9.out.turnB O3.out t10 k10)
              clear k10 t10
              go_wp2_with fail
              refine (HAD.out _ T10.out).mono ?_
              rintro e w11 ⟨rfl, k11, t11⟩
              have T11 := Lib.hid (T10.out.turnA O3.out t11 k11)
              clear k11 t11
              go_wp2_with fail
              refine (HCD.out _ T11.out).mono ?_
              rintro e w12 ⟨rfl, k12, t12⟩
              have T12 := Lib.hid (T11.out.turnC O3.out t12 k12)
              clear k12 t12
              go_wp2_with fail
              refine ⟨?_, by simp [Go.RowKit.intOf]; omega⟩
              (repeat apply Exists.intro)
              exact ⟨⟨k + 1, by omega, by omega, by simp, T12.out⟩, rfl⟩
          · obtain rfl : k = t + 1 := by omega
            have t0 : decide (((t + 1 : Nat) : Int) ≤ (t : Int)) = false := decide_eq_false (by omega)
            have t1 : decide ((t : Int) + 1 ≤ (t : Int)) = false := decide_eq_false (by omega)
            go_wp2_with fail
            refine (learnNil_any _ _).mono ?_
            rintro e w13 ⟨rfl, rfl⟩
            go_wp2_with fail
            refine (newNil_any _).mono ?_
            rintro e w13 ⟨rfl, rfl⟩
            go_wp2_with fail
            refine (derivesNil_any _ _).mono ?_
            rintro e w13 ⟨rfl, rfl⟩
            go_wp2_with fail
            refine (openedNil_any _).mono ?_
            rintro e w13 ⟨rfl, rfl⟩
            go_wp2_with fail
            refine (cloneNil_any _).mono ?_
            rintro e w13 ⟨rfl, rfl⟩
            go_wp2_with fail
            refine (whyNil_any _ _).mono ?_
            rintro e w13 ⟨rfl, rfl⟩
            go_wp2_with fail
            refine (HAL.out _).mono ?_
            rintro e w13 ⟨rfl, g13⟩
            have G13 := Lib.hid g13; clear g13
            go_wp2_with fail
            go_ret
            exact ⟨rfl, below_both (below_both B1.out TX.out.a.bel) ((Gr.alloc _ _).trans G13.out)⟩
  · have hlf : light16 L m = false := by simpa using hlt
    rw [hlf] at HLI
    clear h hok hi hf hlt hlf
    go_enter Try.func5, Try.ntmps5
    go_wp2_with fail
    refine HLI.out.mono ?_
    rintro e w0 ⟨rfl, rfl⟩
    go_wp2_with fail
    refine (HAL.out _).mono ?_
    rintro e w1 ⟨rfl, g1⟩
    have G1 := Lib.hid g1; clear g1
    go_wp2_with fail
    go_ret
    exact ⟨rfl, G1.out⟩
end Go.Proofs.Ythlnoaalhojphaa
