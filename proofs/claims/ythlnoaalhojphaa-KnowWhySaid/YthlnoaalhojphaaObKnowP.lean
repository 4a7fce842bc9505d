/- Who knows terms: light, alive. No condition. -/
import Derived.Test.YthlnoaalhojphaaObKnowN
import Derived.Outline
namespace Go.Proofs.Ythlnoaalhojphaa
open Go.RowKit
set_option linter.unusedVariables false
def light16 (L : List Ac) (m : Nat) : Bool := lightA L && (decide (L.length ≤ 30) && decide (m ≤ 20))
set_option maxHeartbeats 400000 in
theorem light16_any (A B : Option Addr) (n c m d : Nat) (L : List Ac) (w : World) (h : Rs Ac.cells 4 w A n c L) (hok : ∀ x ∈ L, x.ok) (hm : m ≤ d ∧ d ≤ 9223372036854775807) :
    Calls Try.prog 6 #[.slice A n c, .slice B m d] w fun e w' => e = .returned (.bool (light16 L m)) ∧ w = w' := by
  have HL := Lib.hid (light15_any A n c L w h hok)
  have hl := h.1
  have hmax := h.max
  have hcap := h.cap
  obtain ⟨hm1, hm2⟩ := hm
  unfold light16
  rw [hl]
  clear h hok hl
  generalize lightA L = q at HL ⊢
  cases q with
  | false =>
    go_enter Try.func6, Try.ntmps6
    go_wp2_with fail
    refine HL.out.mono ?_
    rintro e w1 ⟨rfl, rfl⟩
    go_wp2_with fail
    go_ret
    exact ⟨rfl, rfl⟩
  | true =>
    by_cases h1 : n ≤ 30
    · have t1 : decide ((n : Int) ≤ 30) = true := decide_eq_true (by omega)
      have HE : Hid ((true && (decide (n ≤ 30) && decide (m ≤ 20))) = decide ((m : Int) ≤ 20)) := by
        show _ = _
        rw [decide_eq_true h1, Bool.true_and, Bool.true_and, decide_eq_decide]; omega
      clear h1
      go_enter Try.func6, Try.ntmps6
      go_wp2_with fail
      refine HL.out.mono ?_
      rintro e w1 ⟨rfl, rfl⟩
      go_wp2_with fail
      go_ret
      exact ⟨by rw [HE.out]; rfl, rfl⟩
    · have t1 : decide ((n : Int) ≤ 30) = false := decide_eq_false (by omega)
      have HE : Hid ((true && (decide (n ≤ 30) && decide (m ≤ 20))) = false) := by
        show _ = _
        rw [decide_eq_false h1]; rfl
      clear h1
      go_enter Try.func6, Try.ntmps6
      go_wp2_with fail
      refine HL.out.mono ?_
      rintro e w1 ⟨rfl, rfl⟩
      go_wp2_with fail
      go_ret
      exact ⟨by rw [HE.out]; rfl, rfl⟩
/-! ### the chapter's example -/
def exT : List Nd := [⟨1, 0, 0, ByteArray.empty, 0⟩, ⟨1, 0, 0, ByteArray.empty, 1⟩, ⟨5, 1, 2, ByteArray.empty, 0⟩]
theorem ex1 : atomT [] = ([⟨1, 0, 0, ByteArray.empty, 0⟩], 1) := rfl
theorem ex2 : atomT [⟨1, 0, 0, ByteArray.empty, 0⟩] = ([⟨1, 0, 0, ByteArray.empty, 0⟩, ⟨1, 0, 0, ByteArray.empty, 1⟩], 2) := rfl
theorem ex3 : pairT [⟨1, 0, 0, ByteArray.empty, 0⟩, ⟨1, 0, 0, ByteArray.empty, 1⟩] 5 1 2 = (exT, 3) := rfl
theorem ex_parted : Parted exT := by
  intro i x hx
  match i with
  | 0 => obtain rfl : _ = x := Option.some.inj hx; exact ⟨⟨by decide, by decide⟩, by decide⟩
  | 1 => obtain rfl : _ = x := Option.some.inj hx; exact ⟨⟨by decide, by decide⟩, by decide⟩
  | 2 => obtain rfl : _ = x := Option.some.inj hx; exact ⟨⟨by decide, by decide⟩, by decide⟩
  | n + 3 => simp [exT] at hx
theorem ex_no : ¬ Der exT (InL [3]) 2 := fun h => by
  have := ((allL_tells ex_parted [3]).2 2).2 h
  revert this
  decide +kernel
theorem ex_yes : Der exT (InL [3, 1]) 2 := ((allL_tells ex_parted [3, 1]).2 2).1 (by decide +kernel)
theorem ex_tin2 : TIn [⟨1, 0, 0, ByteArray.empty, 0⟩, ⟨1, 0, 0, ByteArray.empty, 1⟩] :=
  (doT_in (T := [⟨1, 0, 0, ByteArray.empty, 0⟩]) (doT_in TIn.nil (by decide) 1 0 0 ByteArray.empty (by decide)).1 (by decide) 1 0 0 ByteArray.empty (by decide)).1
theorem ex_tin3 : TIn exT := (doT_in ex_tin2 (by decide) 5 1 2 ByteArray.empty (by decide)).1
theorem ex_ok1 : okIds exT [3] = [3] := by decide
theorem ex_ok2 : okIds exT [1] = [1] := by decide
set_option maxRecDepth 100000 in
set_option maxHeartbeats 1000000 in
theorem alive16_any (w : World) : Calls Try.prog 7 #[] w fun e w' => e = .returned (.bool true) ∧ Gr w w' := by
  go_enter Try.func7, Try.ntmps7
  go_wp2_with fail
  refine (termNew_any w).mono ?_
  rintro e w1 ⟨g, bm, rfl, f1, g1⟩
  have F1 := Lib.hid f1; clear f1 g1
  go_wp2_with fail
  refine (atom_any w g [] _ _ bm w1 F1.out (by decide)).mono ?_
  rintro e w2 ⟨vl2, vs2, rfl, f2, c2⟩
  rw [ex1] at f2 ⊢
  have F2 := Lib.hid f2; clear f2 c2
  go_wp2_with fail
  refine (atom_any w g _ _ _ bm w2 F2.out (by decide)).mono ?_
  rintro e w3 ⟨vl3, vs3, rfl, f3, c3⟩
  rw [ex2] at f3 ⊢
  have F3 := Lib.hid f3; clear f3 c3
  go_wp2_with fail
  refine (enc_any w g _ _ _ bm 1 2 w3 F3.out (ex_tin2.ok (by decide))).mono ?_
  rintro e w4 ⟨vl4, vs4, rfl, f4, c4⟩
  rw [ex3] at f4 ⊢
  have F4 := Lib.hid f4; clear f4 c4
  have B4 := Lib.hid F4.out.below
  have HT : Hid (∀ l, (∀ x ∈ l, outside exT.length x = false) → KnT w4 g exT l) := fun l hl => ⟨F4.out.rd, ex_parted, ex_tin3.kinds, by decide, hl⟩
  go_wp2_with fail
  refine (knowNew_any w4 g exT w4 (Below.refl _ _)).mono ?_
  rintro e w5 ⟨gk, bk, rfl, k5, _, _, _⟩
  have K5 := Lib.hid k5; clear k5
  go_wp2_with fail
  refine (learn_any w4 gk g bk 0 exT [] _ _ _ _ 1 1 [3] _ (K5.out.gr (Gr.alloc _ _)) F4.out.rd ex_tin3.kinds (is_one w5 3) (by intro x hx; rw [List.mem_singleton.1 hx]; exact ⟨by decide, by decide⟩) (by decide)).mono ?_
  rintro e w6 ⟨rfl, k6, _⟩
  rw [List.nil_append, ex_ok1] at k6
  have K6 := Lib.hid k6; clear k6
  go_wp2_with fail
  refine (derives_any w4 gk g bk _ exT [3] _ _ _ 2 w6 K6.out (HT.out _ (by decide)) ⟨by decide, by decide⟩).mono ?_
  rintro e w7 ⟨r, vk7, vp7, vi7, rfl, hr, k7, _⟩
  obtain rfl : r = false := by
    cases r with
    | false => rfl
    | true => exact absurd (hr.1 rfl).2 ex_no
  have K7 := Lib.hid k7; clear k7 hr
  go_wp2_with fail
  refine (learn_any w4 gk g bk _ exT [3] _ _ _ _ 1 1 [1] _ (K7.out.gr (Gr.alloc _ _)) F4.out.rd ex_tin3.kinds (is_one w7 1) (by intro x hx; rw [List.mem_singleton.1 hx]; exact ⟨by decide, by decide⟩) (by decide)).mono ?_
  rintro e w8 ⟨rfl, k8, _⟩
  rw [ex_ok2] at k8
  have K8 := Lib.hid k8; clear k8
  go_wp2_with fail
  refine (derives_any w4 gk g bk _ exT [3, 1] _ _ _ 2 w8 K8.out (HT.out _ (by decide)) ⟨by decide, by decide⟩).mono ?_
  rintro e w9 ⟨r, vk9, vp9, vi9, rfl, hr, k9, _⟩
  obtain rfl : r = true := hr.2 ⟨by decide, ex_yes⟩
  have K9 := Lib.hid k9; clear k9 hr
  go_wp2_with fail
  go_ret
  exact ⟨rfl, below_both B4.out K9.out.bel⟩
end Go.Proofs.Ythlnoaalhojphaa
