/- Names of groups, in plain Lean: they are names, and no two of them are the same. No condition. -/
import Derived.Test.YtciokbponfilfaaDoorObNameN
import Derived.Test.YtciokbponfilfaaDoorObDigL
namespace Go.Proofs.YtciokbponfilfaaDoor
open Go.RowKit
set_option linter.unusedVariables false
set_option linter.unusedSimpArgs false
theorem runes_free : ∀ l : List UInt8, runesN l ≠ none → (46 : UInt8) ∉ l
  | [], _ => by simp
  | [b], h => by
    simp only [runesN] at h
    by_cases hb : smallA b = true
    · intro he
      rw [List.mem_singleton] at he
      subst he
      revert hb; decide
    · rw [if_neg hb] at h; exact absurd rfl h
  | b :: c :: l, h => by
    simp only [runesN] at h
    by_cases hb : smallA b = true
    · rw [if_pos hb] at h
      have ih := runes_free (c :: l) (fun e => h (by rw [e]; rfl))
      intro he
      rcases List.mem_cons.1 he with he | he
      · subst he; revert hb; decide
      · exact ih he
    · rw [if_neg hb] at h
      by_cases hc : b = 195 ∧ smallC c = true
      · rw [if_pos hc] at h
        have ih := runes_free l (fun e => h (by rw [e]; rfl))
        intro he
        rcases List.mem_cons.1 he with he | he
        · rw [hc.1] at he; revert he; decide
        · rcases List.mem_cons.1 he with he | he
          · subst he; have := hc.2; revert this; decide
          · exact ih he
      · rw [if_neg hc] at h; exact absurd rfl h
theorem part_free {p : List UInt8} (h : partL p = true) : (46 : UInt8) ∉ p := runes_free p (partL_ok h)
theorem part_num {p : List UInt8} (h : partL p = true) : (runesN p).getD 0 ≤ 8 := by
  unfold partL at h
  cases hr : runesN p with
  | none => simp
  | some n => rw [hr] at h; simp at h; simpa using h.2
theorem runes_small : ∀ l : List UInt8, (∀ b ∈ l, smallA b = true) → runesN l = some l.length
  | [], _ => rfl
  | [b], h => by simp only [runesN]; rw [if_pos (h b List.mem_cons_self)]; rfl
  | b :: c :: l, h => by
    simp only [runesN]
    rw [if_pos (h b List.mem_cons_self), runes_small (c :: l) (fun x hx => h x (List.mem_cons_of_mem _ hx))]
    rfl
theorem part_small {l : List UInt8} (h : ∀ b ∈ l, smallA b = true) (h1 : 1 ≤ l.length) (h8 : l.length ≤ 8) : partL l = true := by
  unfold partL
  rw [runes_small l h]
  simp; omega
theorem dig_small {c : UInt8} (h : isDig c = true) : smallA c = true := by
  unfold isDig at h
  rw [Bool.and_eq_true, decide_eq_true_iff, decide_eq_true_iff] at h
  unfold smallA
  rw [decide_eq_true (by omega), decide_eq_true (by omega)]
  rfl
theorem printL_nat (u : Nat) : printL (u : Int) = Lib.decDigits u := by unfold printL; rw [if_neg (by omega)]; rfl
theorem print_small (n : Int) (h0 : 0 ≤ n) (h1 : n ≤ 99999999) : (∀ b ∈ printL n, smallA b = true) ∧ 1 ≤ (printL n).length ∧ (printL n).length ≤ 8 := by
  obtain ⟨u, rfl⟩ := Int.eq_ofNat_of_zero_le h0
  rw [printL_nat]
  obtain ⟨_, i2, i3, _, i5, _⟩ := dec_back u
  refine ⟨fun b hb => dig_small (List.all_eq_true.1 i2 b hb), i3, ?_⟩
  rcases Nat.lt_or_ge 8 (Lib.decDigits u).length with h | h
  · by_cases hu : 1 ≤ u
    · have h2 := i5 hu
      have h3 : 10 ^ 8 ≤ 10 ^ ((Lib.decDigits u).length - 1) := Nat.pow_le_pow_right (by decide) (by omega)
      have h4 : (10 : Nat) ^ 8 = 100000000 := by decide
      omega
    · rw [dec_small u (by omega)] at h; simp at h
  · exact h
theorem print_inj {n m : Int} (hn : 0 ≤ n) (hm : 0 ≤ m) (h : printL n = printL m) : n = m := by
  obtain ⟨u, rfl⟩ := Int.eq_ofNat_of_zero_le hn
  obtain ⟨v, rfl⟩ := Int.eq_ofNat_of_zero_le hm
  rw [printL_nat, printL_nat] at h
  have := congrArg valL h
  rw [(dec_back u).1, (dec_back v).1] at this
  omega
theorem print_part {n : Int} (h0 : 0 ≤ n) (h1 : n ≤ 99999999) : partL (printL n) = true := by
  obtain ⟨a, b, c⟩ := print_small n h0 h1
  exact part_small a b c
/-- Such parts are those of a name. -/
def Named (ps : List (List UInt8)) : Prop := joinR ps = (joinL ps, 0) ∧ rightL (joinL ps) = true ∧ piecesL (joinL ps) = ps ∧ splitL (joinL ps) = ps
theorem named_of {ps : List (List UInt8)} (h1 : 1 ≤ ps.length) (h4 : ps.length ≤ 4) (ha : ps.all partL = true) (hs : sumN ps ≤ 25) : Named ps := by
  have hp : piecesL (joinL ps) = ps := pieces_join ps (by rintro rfl; simp at h1) (fun p hp => part_free (List.all_eq_true.1 ha p hp))
  have hr : rightL (joinL ps) = true := by
    unfold rightL
    rw [hp, ha, decide_eq_true h4, decide_eq_true hs]
    rfl
  refine ⟨?_, hr, hp, by unfold splitL; rw [if_pos hr, hp]⟩
  unfold joinR
  rw [if_neg (by omega), if_neg (by rw [ha]; decide), if_neg (by rw [hr]; decide)]
theorem Named.inj {ps qs : List (List UInt8)} (hp : Named ps) (hq : Named qs) (h : joinL ps = joinL qs) : ps = qs := by rw [← hp.2.2.1, ← hq.2.2.1, h]
def headP (id : List UInt8) : List (List UInt8) := [[103], id]
def keyP (id : List UInt8) : List (List UInt8) := [[107], id]
def stageP (id : List UInt8) : List (List UInt8) := [[103], id, [115, 116, 97, 103, 101]]
def epochP (id : List UInt8) (n : Int) : List (List UInt8) := [[103], id, printL n, [101]]
def chainP (id : List UInt8) (n k : Int) : List (List UInt8) := [[103], id, printL n, 115 :: printL k]
theorem sum_cons (p : List UInt8) (ps : List (List UInt8)) : sumN (p :: ps) = (runesN p).getD 0 + 1 + sumN ps := rfl
theorem sum_nil : sumN [] = 0 := rfl
theorem g_one : (runesN [103]).getD 0 = 1 ∧ partL [103] = true := by decide +kernel
theorem k_one : (runesN [107]).getD 0 = 1 ∧ partL [107] = true := by decide +kernel
theorem e_one : (runesN [101]).getD 0 = 1 ∧ partL [101] = true := by decide +kernel
theorem st_one : (runesN [115, 116, 97, 103, 101]).getD 0 = 5 ∧ partL [115, 116, 97, 103, 101] = true := by decide +kernel
theorem all_cons (p : List UInt8) (ps : List (List UInt8)) : (p :: ps).all partL = (partL p && ps.all partL) := rfl
theorem all_nil : ([] : List (List UInt8)).all partL = true := rfl
theorem head_named {id : List UInt8} (h : partL id = true) : Named (headP id) := by
  have hi := part_num h
  refine named_of (by simp [headP, keyP, stageP, epochP, chainP]) (by simp [headP, keyP, stageP, epochP, chainP]) ?_ ?_
  · unfold headP; rw [all_cons, all_cons, all_nil, g_one.2, h]; rfl
  · unfold headP; rw [sum_cons, sum_cons, sum_nil, g_one.1]; omega
theorem key_named {id : List UInt8} (h : partL id = true) : Named (keyP id) := by
  have hi := part_num h
  refine named_of (by simp [headP, keyP, stageP, epochP, chainP]) (by simp [headP, keyP, stageP, epochP, chainP]) ?_ ?_
  · unfold keyP; rw [all_cons, all_cons, all_nil, k_one.2, h]; rfl
  · unfold keyP; rw [sum_cons, sum_cons, sum_nil, k_one.1]; omega
theorem stage_named {id : List UInt8} (h : partL id = true) : Named (stageP id) := by
  have hi := part_num h
  refine named_of (by simp [headP, keyP, stageP, epochP, chainP]) (by simp [headP, keyP, stageP, epochP, chainP]) ?_ ?_
  · unfold stageP; rw [all_cons, all_cons, all_cons, all_nil, g_one.2, h, st_one.2]; rfl
  · unfold stageP; rw [sum_cons, sum_cons, sum_cons, sum_nil, g_one.1, st_one.1]; omega
theorem epoch_named {id : List UInt8} {n : Int} (h : partL id = true) (h0 : 0 ≤ n) (h1 : n ≤ 99999999) : Named (epochP id n) := by
  have hi := part_num h
  have hn := part_num (print_part h0 h1)
  refine named_of (by simp [headP, keyP, stageP, epochP, chainP]) (by simp [headP, keyP, stageP, epochP, chainP]) ?_ ?_
  · unfold epochP; rw [all_cons, all_cons, all_cons, all_cons, all_nil, g_one.2, h, print_part h0 h1, e_one.2]; rfl
  · unfold epochP; rw [sum_cons, sum_cons, sum_cons, sum_cons, sum_nil, g_one.1, e_one.1]; omega
theorem own_small (k : Int) (h0 : 0 ≤ k) (h1 : k ≤ 3) : printL k = [UInt8.ofNat (48 + k.toNat)] := by
  obtain ⟨u, rfl⟩ := Int.eq_ofNat_of_zero_le h0
  rw [printL_nat, dec_small u (by omega)]
  rfl
theorem own_part (k : Int) (h0 : 0 ≤ k) (h1 : k ≤ 3) : (runesN (115 :: printL k)).getD 0 = 2 ∧ partL (115 :: printL k) = true := by
  obtain ⟨a, b, c⟩ := print_small k h0 (by omega)
  have hl : (printL k).length = 1 := by rw [own_small k h0 h1]; rfl
  have hs : ∀ b ∈ (115 :: printL k), smallA b = true := fun b hb => by
    rcases List.mem_cons.1 hb with rfl | hb
    · decide
    · exact a b hb
  refine ⟨?_, part_small hs (by rw [List.length_cons]; omega) (by rw [List.length_cons]; omega)⟩
  rw [runes_small _ hs, List.length_cons, hl]
  rfl
theorem chain_named {id : List UInt8} {n k : Int} (h : partL id = true) (h0 : 0 ≤ n) (h1 : n ≤ 99999999) (k0 : 0 ≤ k) (k1 : k ≤ 3) : Named (chainP id n k) := by
  have hi := part_num h
  have hn := part_num (print_part h0 h1)
  obtain ⟨o1, o2⟩ := own_part k k0 k1
  refine named_of (by simp [headP, keyP, stageP, epochP, chainP]) (by simp [headP, keyP, stageP, epochP, chainP]) ?_ ?_
  · unfold chainP; rw [all_cons, all_cons, all_cons, all_cons, all_nil, g_one.2, h, print_part h0 h1, o2]; rfl
  · unfold chainP; rw [sum_cons, sum_cons, sum_cons, sum_cons, sum_nil, g_one.1, o1]; omega
/-! ### none is another -/
theorem ne_of {ps qs : List (List UInt8)} (hp : Named ps) (hq : Named qs) (h : ps ≠ qs) : (joinL ps == joinL qs) = false := beq_eq_false_iff_ne.2 fun e => h (hp.inj hq e)
theorem eq_of {ps qs : List (List UInt8)} (hp : Named ps) (hq : Named qs) {b : Bool} (h : (ps = qs) ↔ b = true) : (joinL ps == joinL qs) = b := by
  rw [Bool.eq_iff_iff, beq_iff_eq]
  exact ⟨fun e => h.1 (hp.inj hq e), fun e => by rw [h.2 e]⟩
/-- The reference's way: whether a name is below another one. -/
def belowR (a b : List (List UInt8)) : Bool := if b.length = 0 ∨ a.length ≤ b.length then false else a.take b.length == b
theorem below_head {id : List UInt8} {q : List (List UInt8)} (h : q ≠ []) : belowR ([103] :: id :: q) (headP id) = true := by
  have : 0 < q.length := List.length_pos_iff.2 h
  unfold belowR headP
  rw [if_neg (by simp; omega)]
  simp
end Go.Proofs.YtciokbponfilfaaDoor
