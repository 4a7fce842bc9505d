/- The text of a term, written: every term. No condition. -/
import Derived.Test.YthlnoaalhojphaaDoorObPrintW
import Derived.Outline
namespace Go.Proofs.YthlnoaalhojphaaDoor
open Go.RowKit
set_option linter.unusedVariables false
/-- What stands behind the first j parts. -/
def joinTo (T : List Nd) (ps : List Nat) : Nat → List UInt8
  | 0 => []
  | j + 1 => joinTo T ps j ++ (if 0 < j then [44] else []) ++ printT T (ps.getD j 0)
def Prints (w0 : World) (pt b pw g : Nat) (T : List Nd) (id : Nat) : Prop := ∀ (l : List UInt8) (w : World), PW w0 w pt b pw g l → l.length + (printT T id).length ≤ 100000000 →
  Calls Tryd.prog 52 #[.int .i64 (id : Int), .pointer (some ⟨pt, 0, none⟩), .pointer (some ⟨b, 0, none⟩), .pointer (some ⟨pw, 0, none⟩)] w fun e w' => e = .returned (.tuple #[]) ∧ PW w0 w' pt b pw g (l ++ printT T id) ∧ FB w w'
set_option maxRecDepth 100000 in
set_option maxHeartbeats 4000000 in
theorem print1_any (w0 : World) (pt b pw g : Nat) (T : List Nd) (ht : TRd w0 g T) (hT : Parted T) (hK : Kinds T) (hB : Brief T) (hn : T.length ≤ 1000) : ∀ id, 1 ≤ id → id ≤ T.length → Prints w0 pt b pw g T id := by
  intro id
  induction id using Nat.strongRecOn with
  | ind id ih =>
    intro h1 h2 l w hp hl
    obtain ⟨i, rfl⟩ : ∃ i, id = i + 1 := ⟨id - 1, by omega⟩
    obtain ⟨x, hx⟩ : ∃ x, T[i]? = some x := ⟨_, List.getElem?_eq_getElem (show i < T.length by omega)⟩
    have hk := (hT i x hx).1
    have hpp := (hT i x hx).2
    have hpr := printT_at hT hx
    by_cases hk2 : x.k = 1 ∨ x.k = 2
    · have := printAtom_any w0 pt b pw g T l i x w hp ht hx hk2 hB (by omega) hn
      have e : printT T (i + 1) = if x.k = 1 then 97 :: Lib.decDigits x.n else 39 :: (x.s.data.toList ++ [39]) := by
        rw [hpr]
        rcases hk2 with q | q
        · rw [if_pos q, if_pos q]
        · rw [if_neg (by omega), if_pos q, if_neg (by omega)]
      rw [e]
      exact this
    · have HP := Lib.hid hp; have HT := Lib.hid ht
      have HIH : Hid (∀ p ∈ x.parts, Prints w0 pt b pw g T p) := fun p hpm => ih p (by have := hpp p hpm; omega) (hpp p hpm).1 (by have := hpp p hpm; omega)
      have hks := kindOf_succ hx
      have hm := List.mem_of_getElem? hx
      have hxs := hB.s x hm
      obtain ⟨A, c, hc, hs⟩ := ht.mono (w' := w) hp.sb.below
      obtain ⟨b', o, rfl, hcc⟩ := Sl.addr hs (by omega)
      have hcell : w.cell? ⟨b', o + i, none⟩ = some x.cell := hcc i _ (by rw [List.getElem?_map, hx]; rfl)
      have ct : w.cell? ⟨pt, 0, none⟩ = some (.pointer (some ⟨g, 0, none⟩)) := (hp.ct.cell 0).trans rfl
      have hmx := hs.max
      have hcp := hs.cap
      have HKC : Hid (∀ wq, Below w0.heap.size w0 wq → Calls Tryd.prog 16 #[.pointer (some ⟨g, 0, none⟩), .int .i64 ((i : Int) + 1)] wq fun e w' => e = .returned (.int .i64 (x.k : Int)) ∧ Gr wq w') := fun wq hq => by
        have := kind_any g T ((i + 1 : Nat) : Int) wq (ht.mono hq) hK ⟨by omega, by omega⟩
        rwa [hks.1] at this
      have HPC : Hid (∀ wq, Below w0.heap.size w0 wq → Calls Tryd.prog 15 #[.pointer (some ⟨g, 0, none⟩), .int .i64 ((i : Int) + 1)] wq fun e w' => RetInts wq (x.parts.map Int.ofNat) e w') := fun wq hq => by
        have := parts_any g T ((i + 1 : Nat) : Int) wq (ht.mono hq) hK ⟨by omega, by omega⟩
        rwa [hks.2] at this
      have HLC : Hid (∀ wq, Below w0.heap.size w0 wq → Calls Tryd.prog 17 #[.pointer (some ⟨g, 0, none⟩), .int .i64 ((i : Int) + 1)] wq fun e w' => e = .returned (.string (if x.k = 2 ∨ x.k = 3 then x.s else ⟨#[]⟩)) ∧ Gr wq w') := fun wq hq => by
        have := label_any g T ((i + 1 : Nat) : Int) wq (ht.mono hq) hK ⟨by omega, by omega⟩
        have ho : outside T.length ((i + 1 : Nat) : Int) = false := by unfold outside; simp; omega
        have e1 : (((i + 1 : Nat) : Int)).toNat - 1 = i := by omega
        unfold labelT at this
        rw [ho, e1, hx] at this
        exact this
      have HL := Lib.hid hl; have HPR := Lib.hid hpr
      have hit : i < T.length := by omega
      clear hs hcc hm hx hB ht hp ih hT hK hpp hks hpr hl h1 h2
      unfold Nd.cell at hcell
      have hkk : x.k = 3 ∨ x.k = 4 ∨ x.k = 5 := by omega
      have e0 : ((i + 1 : Nat) : Int) = (i : Int) + 1 := by omega
      rw [e0]
      clear e0
      have ix3 : ∀ w, (Instr.index 114 (.agg #[.string ⟨#[]⟩, .string ⟨#[]⟩, .string ⟨#[]⟩, .string ⟨#[107, 100, 102]⟩, .string ⟨#[109, 105, 120]⟩, .string ⟨#[101, 110, 99]⟩]) (.int .i64 3)).run Tryd.prog w = .ok (.string ⟨#[107, 100, 102]⟩) w := fun w => by kernel_rfl
      have ix4 : ∀ w, (Instr.index 114 (.agg #[.string ⟨#[]⟩, .string ⟨#[]⟩, .string ⟨#[]⟩, .string ⟨#[107, 100, 102]⟩, .string ⟨#[109, 105, 120]⟩, .string ⟨#[101, 110, 99]⟩]) (.int .i64 4)).run Tryd.prog w = .ok (.string ⟨#[109, 105, 120]⟩) w := fun w => by kernel_rfl
      have ix5 : ∀ w, (Instr.index 114 (.agg #[.string ⟨#[]⟩, .string ⟨#[]⟩, .string ⟨#[]⟩, .string ⟨#[107, 100, 102]⟩, .string ⟨#[109, 105, 120]⟩, .string ⟨#[101, 110, 99]⟩]) (.int .i64 5)).run Tryd.prog w = .ok (.string ⟨#[101, 110, 99]⟩) w := fun w => by kernel_rfl
      have ahatom := fun xT v w => assert_hit (P := Tryd.prog) Tryd.underlying95 xT v w
      have amatom := fun xT D hD v w => assert_miss (P := Tryd.prog) Tryd.underlying95 zAtom xT D hD v w
      have ahtext := fun xT v w => assert_hit (P := Tryd.prog) Tryd.underlying98 xT v w
      have amtext := fun xT D hD v w => assert_miss (P := Tryd.prog) Tryd.underlying98 zText xT D hD v w
      have ahkdf := fun xT v w => assert_hit (P := Tryd.prog) Tryd.underlying89 xT v w
      have amkdf := fun xT D hD v w => assert_miss (P := Tryd.prog) Tryd.underlying89 zKdf xT D hD v w
      have ahmix := fun xT v w => assert_hit (P := Tryd.prog) Tryd.underlying91 xT v w
      have ammix := fun xT D hD v w => assert_miss (P := Tryd.prog) Tryd.underlying91 zMix xT D hD v w
      have ahenc := fun xT v w => assert_hit (P := Tryd.prog) Tryd.underlying93 xT v w
      have amenc := fun xT D hD v w => assert_miss (P := Tryd.prog) Tryd.underlying93 zEnc xT D hD v w
      rw [if_neg (by omega), if_neg (by omega)] at hcell
      by_cases k3 : x.k = 3
      · rw [if_pos k3] at hcell
        rw [k3] at HKC
        clear hkk hk hk2
        go_enter Tryd.func52, Tryd.ntmps52
        go_wp2_with fail
        refine (HKC.out _ HP.out.sb.below).mono ?_
        rintro e w1 ⟨rfl, g1⟩
        have P1 := Lib.hid (HP.out.gr g1); have F1 := Lib.hid (FB.gr g1)
        clear g1 ct hcell
        go_wp2_with fail
        have hlen : l.length + (printT T (i + 1)).length ≤ 100000000 := HL.out
        have hpl := HPR.out
        rw [if_neg (by omega), if_neg (by omega), if_pos k3] at hpl
        have hl2 : (printT T (i + 1)).length = 4 + (printT T x.a).length + 1 + x.s.data.toList.length + 1 := by rw [hpl]; simp [headS]; omega
        have HPL := Lib.hid hpl
        have hps : x.parts = [x.a] := by simp [Nd.parts, k3]
        rw [hps] at HPC HIH
        clear hpl hps
        refine (P1.out.write _ (by rw [ba_size]; show _ + (3 + 1) ≤ _; omega)).mono ?_
        rintro e w2 ⟨rfl, p2, fb2⟩
        rw [ba_app] at p2
        have P2 := Lib.hid p2; have F2 := Lib.hid (F1.out.trans fb2); clear p2 fb2
        have ct : w2.cell? ⟨pt, 0, none⟩ = some (.pointer (some ⟨g, 0, none⟩)) := (P2.out.ct.cell 0).trans rfl
        go_wp2_with fail
        refine (HPC.out _ P2.out.sb.below).mono ?_
        rintro e w3 ⟨A3, c3, rfl, i3, g3, _, o3⟩
        rcases o3 with o3 | ⟨q, rfl, hq⟩
        · simp at o3
        have P3 := Lib.hid (P2.out.gr g3); have F3 := Lib.hid (F2.out.trans (FB.gr g3)); have BQ := Lib.hid hq
        have hc3 := i3.cap; have hm3 := i3.max
        have u0 : w3.cell? ⟨q, 0, none⟩ = some (.int .i64 (x.a : Int)) := (hq.cell 0).trans rfl
        have cw : w3.cell? ⟨pw, 0, none⟩ = some (.func (.func 52) #[] #[.pointer (some ⟨pt, 0, none⟩), .pointer (some ⟨b, 0, none⟩), .pointer (some ⟨pw, 0, none⟩)]) := (P3.out.cw.cell 0).trans rfl
        clear i3 g3 hq ct
        simp only [List.map_cons, List.map_nil, List.length_cons, List.length_nil] at hc3 ⊢
        go_wp2_with fail
        refine wp_loop_rounds 2 ?_
        rw [rounds_succ]
        go_wp2_with fail
        refine (HIH.out x.a (by simp) _ _ P3.out (by simp; omega)).mono ?_
        rintro e w4 ⟨rfl, p4, fb4⟩
        have P4 := Lib.hid p4; have F4 := Lib.hid (F3.out.trans fb4); clear p4 u0 cw fb4
        have ct : w4.cell? ⟨pt, 0, none⟩ = some (.pointer (some ⟨g, 0, none⟩)) := (P4.out.ct.cell 0).trans rfl
        go_wp2_with fail
        rw [rounds_succ]
        go_wp2_with fail
        refine (HKC.out _ P4.out.sb.below).mono ?_
        rintro e w5 ⟨rfl, g5⟩
        have P5 := Lib.hid (P4.out.gr g5); have F5 := Lib.hid (F4.out.trans (FB.gr g5)); clear g5 ct
        have ct : w5.cell? ⟨pt, 0, none⟩ = some (.pointer (some ⟨g, 0, none⟩)) := (P5.out.ct.cell 0).trans rfl
        go_wp2_with fail
        refine (HLC.out _ P5.out.sb.below).mono ?_
        rintro e w6 ⟨rfl, g6⟩
        rw [if_pos (.inr k3)]
        have P6 := Lib.hid (P5.out.gr g6); have F6 := Lib.hid (F5.out.trans (FB.gr g6)); clear g6 ct
        go_wp2_with fail
        refine (P6.out.write _ (by rw [ba_size]; show _ + (1 + x.s.size) ≤ _; simp at hl2 ⊢; omega)).mono ?_
        rintro e w7 ⟨rfl, p7, fb7⟩
        rw [ba_app] at p7
        have P7 := Lib.hid p7; have F7 := Lib.hid (F6.out.trans fb7); clear p7 fb7
        go_wp2_with fail
        refine (P7.out.write _ (by show _ + 1 ≤ _; simp at hl2 ⊢; omega)).mono ?_
        rintro e w8 ⟨rfl, p8, fb8⟩
        have P8 := Lib.hid p8; have F8 := Lib.hid (F7.out.trans fb8); clear p8 fb8
        go_wp2_with fail
        go_end0
        refine ⟨rfl, ?_, F8.out⟩
        rw [HPL.out]
        simpa [headS] using P8.out
      · have hx4 : x.k = 4 ∨ x.k = 5 := by omega
        have hps : x.parts = [x.a, x.b] := by unfold Nd.parts; rw [if_neg k3, if_neg (by omega)]
        rw [hps] at HPC HIH
        have hlen : l.length + (printT T (i + 1)).length ≤ 100000000 := HL.out
        have hpl := HPR.out
        rw [if_neg (by omega), if_neg (by omega), if_neg k3] at hpl
        have hhd : (headS x.k).length = 3 := by unfold headS; (repeat' split) <;> rfl
        have hl2 : (printT T (i + 1)).length = 4 + (printT T x.a).length + 1 + (printT T x.b).length + 1 := by rw [hpl]; simp [hhd]; omega
        have HPL := Lib.hid hpl
        rw [if_neg k3] at hcell
        clear hpl hps hkk hk hk2
        rcases hx4 with h4 | h4
        · rw [if_pos h4] at hcell
          rw [h4] at HKC
          go_enter Tryd.func52, Tryd.ntmps52
          go_wp2_with fail
          refine (HKC.out _ HP.out.sb.below).mono ?_
          rintro e w1 ⟨rfl, g1⟩
          have P1 := Lib.hid (HP.out.gr g1); have F1 := Lib.hid (FB.gr g1)
          clear g1 ct hcell
          go_wp2_with fail
          refine (P1.out.write _ (by rw [ba_size]; show _ + (3 + 1) ≤ _; omega)).mono ?_
          rintro e w2 ⟨rfl, p2, fb2⟩
          rw [ba_app] at p2
          have P2 := Lib.hid p2; have F2 := Lib.hid (F1.out.trans fb2); clear p2 fb2
          have ct : w2.cell? ⟨pt, 0, none⟩ = some (.pointer (some ⟨g, 0, none⟩)) := (P2.out.ct.cell 0).trans rfl
          go_wp2_with fail
          refine (HPC.out _ P2.out.sb.below).mono ?_
          rintro e w3 ⟨A3, c3, rfl, i3, g3, _, o3⟩
          rcases o3 with o3 | ⟨q, rfl, hq⟩
          · simp at o3
          have P3 := Lib.hid (P2.out.gr g3); have F3 := Lib.hid (F2.out.trans (FB.gr g3)); have BQ := Lib.hid hq
          have hc3 := i3.cap; have hm3 := i3.max
          have u0 : w3.cell? ⟨q, 0, none⟩ = some (.int .i64 (x.a : Int)) := (hq.cell 0).trans rfl
          have cw : w3.cell? ⟨pw, 0, none⟩ = some (.func (.func 52) #[] #[.pointer (some ⟨pt, 0, none⟩), .pointer (some ⟨b, 0, none⟩), .pointer (some ⟨pw, 0, none⟩)]) := (P3.out.cw.cell 0).trans rfl
          clear i3 g3 hq ct
          simp only [List.map_cons, List.map_nil, List.length_cons, List.length_nil] at hc3 ⊢
          go_wp2_with fail
          refine wp_loop_rounds 3 ?_
          rw [rounds_succ]
          go_wp2_with fail
          refine (HIH.out x.a (by simp) _ _ P3.out (by simp; omega)).mono ?_
          rintro e w4 ⟨rfl, p4, fb4⟩
          have P4 := Lib.hid p4; have F4 := Lib.hid (F3.out.trans fb4)
          have BQ4 := Lib.hid (fb4 _ _ _ (by decide) (by decide) BQ.out)
          clear p4 u0 cw fb4
          have u1 : w4.cell? ⟨q, 1, none⟩ = some (.int .i64 (x.b : Int)) := (BQ4.out.cell 1).trans rfl
          go_wp2_with fail
          rw [rounds_succ]
          go_wp2_with fail
          refine (P4.out.write _ (by show _ + 1 ≤ _; simp at hl2 ⊢; omega)).mono ?_
          rintro e w5 ⟨rfl, p5, fb5⟩
          have P5 := Lib.hid p5; have F5 := Lib.hid (F4.out.trans fb5); clear p5 fb5 u1
          have cw : w5.cell? ⟨pw, 0, none⟩ = some (.func (.func 52) #[] #[.pointer (some ⟨pt, 0, none⟩), .pointer (some ⟨b, 0, none⟩), .pointer (some ⟨pw, 0, none⟩)]) := (P5.out.cw.cell 0).trans rfl
          go_wp2_with fail
          refine (HIH.out x.b (by simp) _ _ P5.out (by simp at hl2 ⊢; omega)).mono ?_
          rintro e w6 ⟨rfl, p6, fb6⟩
          have P6 := Lib.hid p6; have F6 := Lib.hid (F5.out.trans fb6); clear p6 fb6 cw
          have ct : w6.cell? ⟨pt, 0, none⟩ = some (.pointer (some ⟨g, 0, none⟩)) := (P6.out.ct.cell 0).trans rfl
          go_wp2_with fail
          rw [rounds_succ]
          go_wp2_with fail
          refine (HKC.out _ P6.out.sb.below).mono ?_
          rintro e w7 ⟨rfl, g7⟩
          have P7 := Lib.hid (P6.out.gr g7); have F7 := Lib.hid (F6.out.trans (FB.gr g7)); clear g7 ct
          go_wp2_with fail
          refine (P7.out.write _ (by show _ + 1 ≤ _; simp at hl2 ⊢; omega)).mono ?_
          rintro e w8 ⟨rfl, p8, fb8⟩
          have P8 := Lib.hid p8; have F8 := Lib.hid (F7.out.trans fb8); clear p8 fb8
          go_wp2_with fail
          go_end0
          refine ⟨rfl, ?_, F8.out⟩
          rw [HPL.out, h4]
          simpa [headS] using P8.out
        · rw [if_neg (by omega)] at hcell
          rw [h4] at HKC
          go_enter Tryd.func52, Tryd.ntmps52
          go_wp2_with fail
          refine (HKC.out _ HP.out.sb.below).mono ?_
          rintro e w1 ⟨rfl, g1⟩
          have P1 := Lib.hid (HP.out.gr g1); have F1 := Lib.hid (FB.gr g1)
          clear g1 ct hcell
          go_wp2_with fail
          refine (P1.out.write _ (by rw [ba_size]; show _ + (3 + 1) ≤ _; omega)).mono ?_
          rintro e w2 ⟨rfl, p2, fb2⟩
          rw [ba_app] at p2
          have P2 := Lib.hid p2; have F2 := Lib.hid (F1.out.trans fb2); clear p2 fb2
          have ct : w2.cell? ⟨pt, 0, none⟩ = some (.pointer (some ⟨g, 0, none⟩)) := (P2.out.ct.cell 0).trans rfl
          go_wp2_with fail
          refine (HPC.out _ P2.out.sb.below).mono ?_
          rintro e w3 ⟨A3, c3, rfl, i3, g3, _, o3⟩
          rcases o3 with o3 | ⟨q, rfl, hq⟩
          · simp at o3
          have P3 := Lib.hid (P2.out.gr g3); have F3 := Lib.hid (F2.out.trans (FB.gr g3)); have BQ := Lib.hid hq
          have hc3 := i3.cap; have hm3 := i3.max
          have u0 : w3.cell? ⟨q, 0, none⟩ = some (.int .i64 (x.a : Int)) := (hq.cell 0).trans rfl
          have cw : w3.cell? ⟨pw, 0, none⟩ = some (.func (.func 52) #[] #[.pointer (some ⟨pt, 0, none⟩), .pointer (some ⟨b, 0, none⟩), .pointer (some ⟨pw, 0, none⟩)]) := (P3.out.cw.cell 0).trans rfl
          clear i3 g3 hq ct
          simp only [List.map_cons, List.map_nil, List.length_cons, List.length_nil] at hc3 ⊢
          go_wp2_with fail
          refine wp_loop_rounds 3 ?_
          rw [rounds_succ]
          go_wp2_with fail
          refine (HIH.out x.a (by simp) _ _ P3.out (by simp; omega)).mono ?_
          rintro e w4 ⟨rfl, p4, fb4⟩
          have P4 := Lib.hid p4; have F4 := Lib.hid (F3.out.trans fb4)
          have BQ4 := Lib.hid (fb4 _ _ _ (by decide) (by decide) BQ.out)
          clear p4 u0 cw fb4
          have u1 : w4.cell? ⟨q, 1, none⟩ = some (.int .i64 (x.b : Int)) := (BQ4.out.cell 1).trans rfl
          go_wp2_with fail
          rw [rounds_succ]
          go_wp2_with fail
          refine (P4.out.write _ (by show _ + 1 ≤ _; simp at hl2 ⊢; omega)).mono ?_
          rintro e w5 ⟨rfl, p5, fb5⟩
          have P5 := Lib.hid p5; have F5 := Lib.hid (F4.out.trans fb5); clear p5 fb5 u1
          have cw : w5.cell? ⟨pw, 0, none⟩ = some (.func (.func 52) #[] #[.pointer (some ⟨pt, 0, none⟩), .pointer (some ⟨b, 0, none⟩), .pointer (some ⟨pw, 0, none⟩)]) := (P5.out.cw.cell 0).trans rfl
          go_wp2_with fail
          refine (HIH.out x.b (by simp) _ _ P5.out (by simp at hl2 ⊢; omega)).mono ?_
          rintro e w6 ⟨rfl, p6, fb6⟩
          have P6 := Lib.hid p6; have F6 := Lib.hid (F5.out.trans fb6); clear p6 fb6 cw
          have ct : w6.cell? ⟨pt, 0, none⟩ = some (.pointer (some ⟨g, 0, none⟩)) := (P6.out.ct.cell 0).trans rfl
          go_wp2_with fail
          rw [rounds_succ]
          go_wp2_with fail
          refine (HKC.out _ P6.out.sb.below).mono ?_
          rintro e w7 ⟨rfl, g7⟩
          have P7 := Lib.hid (P6.out.gr g7); have F7 := Lib.hid (F6.out.trans (FB.gr g7)); clear g7 ct
          go_wp2_with fail
          refine (P7.out.write _ (by show _ + 1 ≤ _; simp at hl2 ⊢; omega)).mono ?_
          rintro e w8 ⟨rfl, p8, fb8⟩
          have P8 := Lib.hid p8; have F8 := Lib.hid (F7.out.trans fb8); clear p8 fb8
          go_wp2_with fail
          go_end0
          refine ⟨rfl, ?_, F8.out⟩
          rw [HPL.out, h4]
          simpa [headS] using P8.out
end Go.Proofs.YthlnoaalhojphaaDoor
