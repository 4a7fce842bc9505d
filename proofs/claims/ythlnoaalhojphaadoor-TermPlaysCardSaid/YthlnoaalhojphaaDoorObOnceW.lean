/- The text of any term; the chapter's example; what a nil table says. No condition. -/
import Derived.Test.YthlnoaalhojphaaDoorObPrintY
import Derived.Test.YthlnoaalhojphaaDoorObOnceL
import Derived.Outline
namespace Go.Proofs.YthlnoaalhojphaaDoor
open Go.RowKit
set_option linter.unusedVariables false
theorem termPrint_any (g : Nat) (T : List Nd) (id : Int) (w : World) (ht : TRd w g T) (hs : SRd w g T) (hT : Parted T) (hK : Kinds T) (hB : Brief T) (hn : T.length ≤ 1000) (hid : -9223372036854775808 ≤ id ∧ id ≤ 9223372036854775807) :
    Calls Tryd.prog 24 #[.pointer (some ⟨g, 0, none⟩), .int .i64 id] w fun e w' => e = .returned (.string ⟨(textT T id).toArray⟩) ∧ Gr w w' := by
  unfold textT
  by_cases h : sizeT T id = 0 ∨ 1000 < sizeT T id
  · rw [if_pos h]
    exact print_no g T id w ht hs hid h
  · rw [if_neg h]
    have h0 : sizeT T id ≠ 0 := fun q => h (.inl q)
    have h1 : sizeT T id ≤ 1000 := Nat.le_of_not_lt fun q => h (.inr q)
    have ho : outside T.length id = false := by
      cases hq : outside T.length id with
      | false => rfl
      | true => exact (h0 ((sizeT_zero hT id).2 hq)).elim
    have hin : 1 ≤ id ∧ id ≤ T.length := by unfold outside at ho; simp at ho; omega
    obtain ⟨i, rfl⟩ : ∃ i : Nat, id = (i : Int) := ⟨id.toNat, by omega⟩
    have := print_yes g T i w ht hs hT hK hB hn (by omega) (by omega) h1 h0
    rw [show ((i : Nat) : Int).toNat = i by omega]
    exact this
theorem alive_text : (textT (pairT (atomT (atomT []).1).1 5 1 2).1 3) = [101, 110, 99, 40, 97, 48, 44, 97, 49, 41] := by decide +kernel
theorem alive_ids : (atomT []).2 = 1 ∧ (atomT (atomT []).1).2 = 2 ∧ (pairT (atomT (atomT []).1).1 5 1 2).2 = 3 := by decide +kernel
theorem doT_list (l : List (Int × Int × Int × ByteArray)) (hl : l.length ≤ 1000) (hs : ∀ x ∈ l, x.2.2.2.size ≤ 40) : TGood (l.foldl (fun T x => (doT T x.1 x.2.1 x.2.2.1 x.2.2.2).1) []) l.length ∧ TC (l.foldl (fun T x => (doT T x.1 x.2.1 x.2.2.1 x.2.2.2).1) []) := by
  have : ∀ (l : List (Int × Int × Int × ByteArray)) (T : List Nd) (n : Nat), n + l.length ≤ 1000 → TGood T n → TC T → (∀ x ∈ l, x.2.2.2.size ≤ 40) → TGood (l.foldl (fun T x => (doT T x.1 x.2.1 x.2.2.1 x.2.2.2).1) T) (n + l.length) ∧ TC (l.foldl (fun T x => (doT T x.1 x.2.1 x.2.2.1 x.2.2.2).1) T) := by
    intro l
    induction l with
    | nil => intro T n _ h k _; exact ⟨h, k⟩
    | cons x l ih =>
      intro T n hn h k hs
      simp only [List.length_cons] at hn
      have h1 := doT_in h.i (Nat.le_trans h.l (by omega)) x.1 x.2.1 x.2.2.1 x.2.2.2 (Nat.le_trans (hs x (by simp)) (by decide))
      have := ih (doT T x.1 x.2.1 x.2.2.1 x.2.2.2).1 (n + 1) (by omega) ⟨h1.1, doT_nz h.z _ _ _ _, Nat.le_trans h1.2.2 (by have := h.l; omega)⟩ (doT_tc k _ _ _ _ (hs x (by simp))) (fun y hy => hs y (List.mem_cons_of_mem _ hy))
      rw [List.foldl_cons, List.length_cons, show n + (l.length + 1) = n + 1 + l.length by omega]
      exact this
  have := this l [] 0 (by omega) ⟨TIn.nil, (by intro y hy; cases hy), (by simp)⟩ TC.nil hs
  rwa [Nat.zero_add] at this
def T2 : List Nd := (atomT (atomT []).1).1
def T3 : List Nd := (pairT T2 5 1 2).1
theorem t2_good : TGood T2 2 ∧ TC T2 := doT_list [(1, 0, 0, ByteArray.empty), (1, 0, 0, ByteArray.empty)] (by decide) (by intro x hx; simp at hx; rw [hx]; decide)
theorem t1_good : TGood (atomT []).1 1 ∧ TC (atomT []).1 := doT_list [(1, 0, 0, ByteArray.empty)] (by decide) (by intro x hx; simp at hx; rw [hx]; decide)
theorem t3_good : TGood T3 3 ∧ TC T3 := doT_list [(1, 0, 0, ByteArray.empty), (1, 0, 0, ByteArray.empty), (5, 1, 2, ByteArray.empty)] (by decide) (by intro x hx; simp at hx; rcases hx with h | h <;> rw [h] <;> decide)
set_option maxRecDepth 100000 in
set_option maxHeartbeats 1000000 in
theorem alive15_any (w : World) : Calls Tryd.prog 9 #[] w fun e w' => e = .returned (.bool true) ∧ Gr w w' := by
  go_enter Tryd.func9, Tryd.ntmps9
  go_wp2_with fail
  refine (termNew_any w).mono ?_
  rintro e w1 ⟨g, bm, rfl, hf0, hg0⟩
  have F0 := Lib.hid hf0; clear hf0 hg0
  go_wp2_with fail
  refine (atom_any w g [] _ _ bm w1 F0.out (by decide)).mono ?_
  rintro e w2 ⟨vl1, vs1, rfl, t1, _⟩
  have F1 := Lib.hid t1; clear t1
  go_wp2_with fail
  refine (atom_any w g _ _ _ bm w2 F1.out (by decide)).mono ?_
  rintro e w3 ⟨vl2, vs2, rfl, t2, _⟩
  have F2 := Lib.hid t2; clear t2
  go_wp2_with fail
  refine (enc_any w g T2 _ _ bm 1 2 w3 F2.out (t2_good.1.i.ok (by decide))).mono ?_
  rintro e w4 ⟨vl3, vs3, rfl, t3, _⟩
  have F3 := Lib.hid t3; clear t3
  go_wp2_with fail
  refine (termPrint_any g T3 3 w4 F3.out.rd F3.out.srd t3_good.1.i.parts t3_good.1.i.kinds (t3_good.2.brief (by decide)) (by decide) (by decide)).mono ?_
  rintro e w5 ⟨rfl, g5⟩
  have G5 := Lib.hid (below_both F3.out.below g5); clear g5
  have ht : textT T3 3 = [101, 110, 99, 40, 97, 48, 44, 97, 49, 41] := alive_text
  rw [ht]
  go_wp2_with fail
  go_ret
  exact ⟨rfl, G5.out⟩
end Go.Proofs.YthlnoaalhojphaaDoor
