/- Own texts of this claim, one behind the other. No condition. -/
import Derived.Test.YtadenlhnfkccaaaGreatDoorObPkA
import Derived.Test.YtadenlhnfkccaaaGreatDoorObPkC
import Derived.Test.YtadenlhnfkccaaaGreatDoorObPkF
import Derived.Test.YtadenlhnfkccaaaGreatDoorObPkG
import Derived.Test.YtadenlhnfkccaaaGreatDoorObPkJ
import Derived.Outline
import Derived.Test.YtadenlhnfkccaaaGreatDoorProg
import Derived.Deep.QuietTactic
import Derived.BigQuiet
import Derived.Lib.OthersKept

/- Lines of scripts, in plain Lean: the ways back. No condition. -/
namespace Go.Proofs.YtadenlhnfkccaaaGreatDoor
open Go.RowKit
set_option linter.unusedVariables false
set_option linter.unusedSimpArgs false
/-! ### what a line's words have not: the end of a line -/
theorem runes_nofeed : ∀ l : List UInt8, runesN l ≠ none → ∀ b ∈ l, b ≠ 10
  | [], _, b, hb => by simp at hb
  | [x], h, b, hb => by
    simp only [List.mem_singleton] at hb
    subst hb
    rintro rfl
    exact h (by decide)
  | x :: y :: l, h, b, hb => by
    rw [runesN] at h
    by_cases hx : smallA x = true
    · rw [if_pos hx] at h
      rcases List.mem_cons.1 hb with rfl | hb
      · rintro rfl; revert hx; decide
      · exact runes_nofeed (y :: l) (fun e => h (by rw [e]; rfl)) b hb
    · rw [if_neg hx] at h
      by_cases hc : x = 195 ∧ smallC y = true
      · rw [if_pos hc] at h
        rcases List.mem_cons.1 hb with rfl | hb
        · rw [hc.1]; decide
        · rcases List.mem_cons.1 hb with rfl | hb
          · rintro rfl; have := hc.2; revert this; decide
          · exact runes_nofeed l (fun e => h (by rw [e]; rfl)) b hb
      · rw [if_neg hc] at h; exact absurd rfl h
theorem partL_nofeed {l : List UInt8} (hp : partL l = true) : ∀ b ∈ l, b ≠ 10 := by
  refine runes_nofeed l fun e => ?_
  unfold partL at hp
  rw [e] at hp
  cases hp
theorem partL_noblank {l : List UInt8} (hp : partL l = true) : ∀ b ∈ l, b ≠ 32 := by
  refine runes_noblank l fun e => ?_
  unfold partL at hp
  rw [e] at hp
  cases hp
theorem parseF_digits {w : List UInt8} {m : Int} (h : parseF w m = 0) : ∀ b ∈ w, isDig b = true := by
  have hb := (print_parse h).1
  unfold badL at hb
  simp only [Bool.not_eq_false', Bool.and_eq_true] at hb
  exact List.all_eq_true.1 hb.2
theorem hexOk_dig {w : List UInt8} (h : hexOk w = true) : ∀ b ∈ w, hexV b < 16 := by
  intro b hb
  unfold hexOk at h
  simpa using List.all_eq_true.1 h b hb
theorem hexR_ok {w : List UInt8} (h : (hexR w).2.2 = 0) : hexOk w = true ∧ w.length % 2 = 0 ∧ (hexR w).1 = hexG w := by
  unfold hexR at *
  cases ho : hexOk w with
  | false => rw [ho] at h; simp at h
  | true =>
    rw [ho] at h
    by_cases hl : w.length % 2 = 1
    · rw [if_neg (by decide), if_pos hl] at h; simp at h
    · rw [if_neg (by decide), if_neg hl]
      exact ⟨rfl, by omega, rfl⟩
/-- A word of a sign has neither blanks nor ends of lines. -/
theorem okT_plain {s : Nat} {w : List UInt8} (h : okT s w = true) : ∀ b ∈ w, b ≠ 32 ∧ b ≠ 10 := by
  unfold okT at h
  intro b hb
  split at h
  · unfold keepB at h
    simp only [Bool.or_eq_true, Bool.and_eq_true, beq_iff_eq] at h
    rcases h with rfl | ⟨⟨h, _⟩, _⟩
    · simp only [List.mem_singleton] at hb
      subst hb; decide
    · have := List.all_eq_true.1 h b hb
      simp only [Bool.or_eq_true, beq_iff_eq] at this
      rcases this with rfl | rfl <;> decide
  · split at h
    · exact ⟨partL_noblank h b hb, partL_nofeed h b hb⟩
    · split at h
      · unfold hexB at h
        simp only [Bool.and_eq_true, beq_iff_eq] at h
        have := hexOk_dig (hexR_ok h.1.1).1 b hb
        refine ⟨?_, ?_⟩ <;> (rintro rfl; revert this; decide)
      · have := parseF_digits (by simpa using h : parseF w 1073741824 = 0) b hb
        refine ⟨?_, ?_⟩ <;> (rintro rfl; revert this; decide)
theorem fieldL_nofeed (o : OpD) (s : Nat) : ∀ b ∈ fieldL o s, b ≠ 10 := by
  have hp : ∀ l : List UInt8, ∀ b ∈ partT l, b ≠ 10 := by
    intro l b hb
    unfold partT at hb
    split at hb
    · next h => exact partL_nofeed h b hb
    · simp at hb
  have hc : ∀ n : Int, ∀ b ∈ countT n, b ≠ 10 := by
    intro n b hb
    by_cases hn : countT n = []
    · rw [hn] at hb; simp at hb
    · have := parseF_digits (parse_count hn).1 b hb
      rintro rfl; revert this; decide
  intro b hb
  unfold fieldL at hb
  split at hb
  · exact hp _ b hb
  · split at hb
    · exact hp _ b hb
    · split at hb
      · exact hc _ b hb
      · split at hb
        · exact hc _ b hb
        · split at hb
          · exact hc _ b hb
          · split at hb
            · unfold sayT at hb
              split at hb
              · revert b; decide
              · split at hb
                · revert b; decide
                · split at hb
                  · revert b; decide
                  · simp at hb
            · split at hb
              · split at hb
                · have := hexOk_dig (hexOk_P o.x) b hb
                  rintro rfl; revert this; decide
                · simp at hb
              · simp at hb
theorem mem_tail32 : ∀ (r : List (List UInt8)) (b : UInt8), b ∈ Lib.joinTail [32] r → b = 32 ∨ ∃ w ∈ r, b ∈ w
  | [], b, h => by simp [Lib.joinTail] at h
  | x :: r, b, h => by
    have e : Lib.joinTail [32] (x :: r) = [32] ++ x ++ Lib.joinTail [32] r := by simp [Lib.joinTail]
    rw [e] at h
    rcases List.mem_append.1 h with h | h
    · rcases List.mem_append.1 h with h | h
      · left; simpa using h
      · right; exact ⟨x, List.mem_cons_self, h⟩
    · rcases mem_tail32 r b h with h | ⟨w, hw, hb⟩
      · left; exact h
      · right; exact ⟨w, List.mem_cons_of_mem _ hw, hb⟩
theorem mem_join32 {p : List UInt8} {r : List (List UInt8)} {b : UInt8} (h : b ∈ Lib.join (p :: r) [32]) : b = 32 ∨ ∃ w ∈ p :: r, b ∈ w := by
  rw [Lib.join_cons] at h
  rcases List.mem_append.1 h with h | h
  · right; exact ⟨p, List.mem_cons_self, h⟩
  · rcases mem_tail32 r b h with h | ⟨w, hw, hb⟩
    · left; exact h
    · right; exact ⟨w, List.mem_cons_of_mem _ hw, hb⟩
theorem formW_nofeed (k : Nat) : ∀ b ∈ formW k, b ≠ 10 := by
  match k with
  | 0 | 1 | 2 | 3 | 4 | 5 | 6 | 7 | 8 | 9 => decide
  | k + 10 => intro b h; simp [formW] at h
theorem scrW_plain (k : Nat) : ∀ b ∈ scrW k, b ≠ 32 ∧ b ≠ 10 := by
  match k with
  | 0 | 1 | 2 | 3 | 4 | 5 | 6 | 7 | 8 => decide
  | k + 9 => intro b h; simp [scrW] at h
/-- What is read as an operation has no end of a line. -/
theorem op_nofeed {l : List UInt8} (h : (parseO l).2 = 0) : ∀ b ∈ l, b ≠ 10 := by
  have hb := parse_back h
  have hl : l = lineL (parseO l).1 := by
    unfold printO at hb
    split at hb
    · exact (congrArg Prod.fst hb).symm
    · have := congrArg Prod.fst hb
      simp at this
      rw [this, parse_nil] at h
      cases h
  intro b hx
  rw [hl] at hx
  unfold lineL at hx
  split at hx
  · rcases mem_join32 hx with rfl | ⟨w, hw, hbw⟩
    · decide
    · rcases List.mem_cons.1 hw with rfl | hw
      · exact formW_nofeed _ b hbw
      · obtain ⟨s, _, rfl⟩ := List.mem_map.1 hw
        exact fieldL_nofeed _ _ b hbw
  · simp at hx
/-! ### words back -/
theorem hexD_V {c : UInt8} (h : hexV c < 16) : hexD (hexV c) = c := by
  have hc := c.toNat_lt
  unfold hexV at *
  apply UInt8.toNat_inj.1
  by_cases h1 : 48 ≤ c.toNat ∧ c.toNat ≤ 57
  · rw [if_pos h1]
    unfold hexD
    rw [if_pos (by omega), UInt8.toNat_ofNat_of_lt' (by show _ < 256; omega)]
    omega
  · rw [if_neg h1] at h ⊢
    by_cases h2 : 97 ≤ c.toNat ∧ c.toNat ≤ 102
    · rw [if_pos h2]
      unfold hexD
      rw [if_neg (by omega), UInt8.toNat_ofNat_of_lt' (by show _ < 256; omega)]
      omega
    · rw [if_neg h2] at h; omega
theorem hexP_G : ∀ (l : List UInt8), hexOk l = true → l.length % 2 = 0 → hexP (hexG l) = l
  | [], _, _ => rfl
  | [x], _, h => by simp at h
  | a :: b :: t, ho, hl => by
    have ha := hexOk_dig ho a List.mem_cons_self
    have hb := hexOk_dig ho b (List.mem_cons_of_mem _ List.mem_cons_self)
    have ht : hexOk t = true := by unfold hexOk at ho ⊢; simp at ho ⊢; exact ho.2.2
    have ih := hexP_G t ht (by simp at hl; omega)
    show hexP (UInt8.ofNat (hexV a * 16 + hexV b) :: hexG t) = _
    rw [hexP_cons, ih, UInt8.toNat_ofNat_of_lt' (by show _ < 256; omega)]
    rw [show (hexV a * 16 + hexV b) / 16 = hexV a by omega, show (hexV a * 16 + hexV b) % 16 = hexV b by omega, hexD_V ha, hexD_V hb]
theorem keepT_L {w : List UInt8} (h : keepB w = true) : keepT (keepL w) = w := by
  unfold keepB at h
  unfold keepT keepL
  by_cases hw : w = [45]
  · rw [if_pos hw, if_pos rfl]; exact hw.symm
  rw [if_neg hw]
  simp only [Bool.or_eq_true, Bool.and_eq_true, beq_iff_eq, decide_eq_true_eq] at h
  rcases h with h | ⟨⟨h, h1⟩, h64⟩
  · exact absurd h hw
  have hne : ¬ (w.map fun c => (c.toNat : Int) - 48) = [] := by
    intro e
    have := congrArg List.length e
    simp at this
    rw [this] at h1; simp at h1
  rw [if_neg hne]
  clear hw h1 h64 hne
  induction w with
  | nil => rfl
  | cons c t ih =>
    rw [List.all_cons, Bool.and_eq_true] at h
    rw [List.map_cons, List.flatMap_cons, ih h.2]
    have hc := h.1
    simp only [Bool.or_eq_true, beq_iff_eq] at hc
    have e0 : printL 0 = [48] := by decide +kernel
    have e1 : printL 1 = [49] := by decide +kernel
    rcases hc with rfl | rfl
    · show printL 0 ++ t = _; rw [e0]; rfl
    · show printL 1 ++ t = _; rw [e1]; rfl
/-- What is read of a word, as a word. -/
theorem word_read {d : LnD} {s : Nat} {w : List UInt8} (h : okT s w = true) (hs : s = 110 ∨ s = 116 ∨ s = 97 ∨ s = 101 ∨ s = 107 ∨ s = 103 ∨ s = 105 ∨ s = 120) : wordS (readT d s w) s = w := by
  unfold okT at h
  rcases hs with rfl | rfl | rfl | rfl | rfl | rfl | rfl | rfl
  · have hp : parseF w 1073741824 = 0 := by simpa using h
    obtain ⟨_, _, h3, h4⟩ := print_parse hp
    show printL (parseN w 1073741824) = w
    rw [h3, h4]
  · have hp : parseF w 1073741824 = 0 := by simpa using h
    obtain ⟨_, _, h3, h4⟩ := print_parse hp
    show printL (parseN w 1073741824) = w
    rw [h3, h4]
  · have hp : parseF w 1073741824 = 0 := by simpa using h
    obtain ⟨_, _, h3, h4⟩ := print_parse hp
    show printL (parseN w 1073741824) = w
    rw [h3, h4]
  · have hp : parseF w 1073741824 = 0 := by simpa using h
    obtain ⟨_, _, h3, h4⟩ := print_parse hp
    show printL (parseN w 1073741824) = w
    rw [h3, h4]
  · exact keepT_L (by simpa using h)
  · rfl
  · rfl
  · have h : hexB w = true := by simpa using h
    unfold hexB at h
    simp only [Bool.and_eq_true, beq_iff_eq] at h
    obtain ⟨h1, h2, h3⟩ := hexR_ok h.1.1
    show hexP (hexR w).1 = w
    rw [h3, hexP_G w h1 h2]
theorem word_other {d : LnD} {s s' : Nat} {w : List UInt8} (h : s ≠ s') (hs : s = 110 ∨ s = 116 ∨ s = 97 ∨ s = 101 ∨ s = 107 ∨ s = 103 ∨ s = 105 ∨ s = 120) (hs' : s' = 110 ∨ s' = 116 ∨ s' = 97 ∨ s' = 101 ∨ s' = 107 ∨ s' = 103 ∨ s' = 105 ∨ s' = 120) : wordS (readT d s w) s' = wordS d s' := by
  rcases hs with rfl | rfl | rfl | rfl | rfl | rfl | rfl | rfl <;> rcases hs' with rfl | rfl | rfl | rfl | rfl | rfl | rfl | rfl <;> first | exact absurd rfl h | rfl
theorem readT_ko {d : LnD} {s : Nat} {w : List UInt8} : (readT d s w).k = d.k ∧ (readT d s w).o = d.o := by
  unfold readT
  repeat' (split; · exact ⟨rfl, rfl⟩)
  exact ⟨rfl, rfl⟩
def SgT (s : Nat) : Prop := s = 110 ∨ s = 116 ∨ s = 97 ∨ s = 101 ∨ s = 107 ∨ s = 103 ∨ s = 105 ∨ s = 120
theorem foldT_keep : ∀ (ss : List UInt8) (ws : List (List UInt8)) (d d' : LnD), foldT d ss ws = some d' → (∀ x ∈ ss, SgT x.toNat) → d'.k = d.k ∧ ∀ s : Nat, SgT s → (∀ x ∈ ss, x.toNat ≠ s) → wordS d' s = wordS d s
  | [], ws, d, d', h, _ => by
    have h : some d = some d' := h
    cases h
    exact ⟨rfl, fun _ _ _ => rfl⟩
  | _ :: _, [], d, d', h, _ => by cases h
  | s :: ss, w :: ws, d, d', h, hg => by
    have h : (if okT s.toNat w = true then foldT (readT d s.toNat w) ss ws else none) = some d' := h
    split at h
    · obtain ⟨h1, h2⟩ := foldT_keep ss ws _ _ h (fun x hx => hg x (List.mem_cons_of_mem _ hx))
      refine ⟨h1.trans readT_ko.1, fun x hsx hx => ?_⟩
      rw [h2 x hsx (fun y hy => hx y (List.mem_cons_of_mem _ hy)), word_other (hx s List.mem_cons_self) (hg s List.mem_cons_self) hsx]
    · cases h
theorem foldT_back : ∀ (ss : List UInt8) (ws : List (List UInt8)) (d d' : LnD), foldT d ss ws = some d' → ss.length = ws.length → ss.Nodup → (∀ x ∈ ss, SgT x.toNat) → (ss.map fun s => wordS d' s.toNat) = ws ∧ ∀ w ∈ ws, ∀ b ∈ w, b ≠ 32 ∧ b ≠ 10
  | [], ws, d, d', _, hl, _, _ => by
    cases ws with
    | nil => exact ⟨rfl, fun w hw => by simp at hw⟩
    | cons w ws => simp at hl
  | _ :: _, [], d, d', h, _, _, _ => by cases h
  | s :: ss, w :: ws, d, d', h, hl, hd, hg => by
    have h : (if okT s.toNat w = true then foldT (readT d s.toNat w) ss ws else none) = some d' := h
    rw [List.nodup_cons] at hd
    split at h
    · next hb =>
      obtain ⟨i1, i2⟩ := foldT_back ss ws _ _ h (by simpa using hl) hd.2 (fun x hx => hg x (List.mem_cons_of_mem _ hx))
      have h2 := (foldT_keep ss ws _ _ h (fun x hx => hg x (List.mem_cons_of_mem _ hx))).2 s.toNat (hg s List.mem_cons_self) (fun x hx e => hd.1 (by rw [UInt8.toNat_inj.1 e] at hx; exact hx))
      refine ⟨?_, fun v hv b hx => ?_⟩
      · rw [List.map_cons, i1, h2, word_read hb (hg s List.mem_cons_self)]
      · rcases List.mem_cons.1 hv with rfl | hv
        · exact okT_plain hb b hx
        · exact i2 v hv b hx
    · cases h
theorem scrS_nodup (k : Nat) : (scrS k).Nodup ∧ ∀ x ∈ scrS k, SgT x.toNat := by
  unfold SgT
  match k with
  | 0 | 1 | 2 | 3 | 4 | 5 | 6 | 7 | 8 => decide
  | k + 9 => exact ⟨List.nodup_nil, fun x h => by simp [scrS] at h⟩
theorem sameT_self (d : LnD) : sameT d d = true := by unfold sameT; simp [sameO_self]
/-- What is read has just that text, and no end of a line. -/
theorem text_back {l : List UInt8} (h : (parseT l).2 = 0) : textT (parseT l).1 = l ∧ ∀ b ∈ l, b ≠ 10 := by
  by_cases ho : (parseO l).2 = 0
  · have e : parseT l = ({ ln0 with k := 1, o := (parseO l).1 }, 0) := if_pos ho
    refine ⟨?_, op_nofeed ho⟩
    rw [e]
    show (if (1 : Int) = 1 then (printO (parseO l).1).1 else _) = l
    rw [if_pos rfl, parse_back ho]
  · have e : parseT l = match lnOf l with | some d => (d, 0) | none => (ln0, 3) := if_neg ho
    rw [e] at h ⊢
    cases hd : lnOf l with
    | none => rw [hd] at h; cases h
    | some d =>
      unfold lnOf at hd
      simp only [] at hd
      obtain ⟨k, hk⟩ : ∃ k, k = scrK ((cutL 32 l).headD []) := ⟨_, rfl⟩
      rw [← hk] at hd
      by_cases hk9 : k < 9
      · rw [if_pos hk9] at hd
        have hfind : (scrW k == (cutL 32 l).headD [] && !(scrW k == [])) = true := by
          unfold scrK at hk
          cases hf : (List.range 9).find? fun k => scrW k == (cutL 32 l).headD [] && !(scrW k == []) with
          | none => rw [hf] at hk; simp at hk; omega
          | some j =>
            rw [hf] at hk
            simp at hk
            subst hk
            exact List.find?_some (p := fun k => scrW k == (cutL 32 l).headD [] && !(scrW k == [])) hf
        simp only [Bool.and_eq_true, beq_iff_eq, Bool.not_eq_true', beq_eq_false_iff_ne] at hfind
        obtain ⟨hw, hne⟩ := hfind
        unfold tryT at hd
        by_cases hlen : (cutL 32 l).length = 1 + (scrS k).length
        · rw [if_pos hlen] at hd
          obtain ⟨hb, hp⟩ := foldT_back _ _ _ _ hd (by rw [List.length_tail]; omega) (scrS_nodup k).1 (scrS_nodup k).2
          have hkk : d.k = (k : Int) := (foldT_keep _ _ _ _ hd (scrS_nodup k).2).1
          have hk1 : k ≠ 1 := by rintro rfl; exact hne rfl
          have hj : Lib.join (scrW k :: (cutL 32 l).tail) [32] = l := by
            rw [hw]
            have := join_cut 32 l
            cases hc : cutL 32 l with
            | nil => exact absurd hc (cut_ne 32 l)
            | cons p ps => rw [hc] at this; exact this
          refine ⟨?_, ?_⟩
          · show textT d = l
            unfold textT
            rw [if_neg (by omega), if_pos (by omega), hkk]
            show Lib.join (scrW k :: (scrS k).map fun s => wordS d s.toNat) [32] = l
            rw [hb, hj]
          · intro b hx
            rw [← hj] at hx
            rcases mem_join32 hx with rfl | ⟨w, hw', hbw⟩
            · decide
            · rcases List.mem_cons.1 hw' with rfl | hw'
              · exact (scrW_plain k b hbw).2
              · exact (hp w hw' b hbw).2
        · rw [if_neg hlen] at hd; cases hd
      · rw [if_neg hk9] at hd; cases hd
theorem parseT_nil : (parseT []).2 = 3 := by decide +kernel
/-- What is read is written as it was. -/
theorem printT_parse {l : List UInt8} (h : (parseT l).2 = 0) : printT (parseT l).1 = (l, 0) := by
  unfold printT
  rw [(text_back h).1, if_pos ⟨h, sameT_self _⟩]
/-- What is written is read as it was. -/
theorem printT_back {d : LnD} (h : (printT d).2 = 0) : (parseT (printT d).1).2 = 0 ∧ sameT d (parseT (printT d).1).1 = true := by
  unfold printT at *
  by_cases hx : (parseT (textT d)).2 = 0 ∧ sameT d (parseT (textT d)).1 = true
  · rw [if_pos hx]; exact hx
  · rw [if_neg hx] at h; simp at h
end Go.Proofs.YtadenlhnfkccaaaGreatDoor

/- Lines of scripts: which form a word is of. No condition. -/
namespace Go.Proofs.YtadenlhnfkccaaaGreatDoor
open Go.RowKit
set_option linter.unusedVariables false
set_option linter.unusedSimpArgs false
def scrCells : Array Value := #[.string ⟨#[]⟩, .string ⟨#[]⟩, .string ⟨#[]⟩, .string ⟨#[]⟩, .string ⟨#[97, 114, 109]⟩, .string ⟨#[110]⟩, .string ⟨#[99, 114, 97, 115, 104]⟩, .string ⟨#[107, 116, 97]⟩, .string ⟨#[111, 112, 101, 110]⟩, .string ⟨#[]⟩, .string ⟨#[108, 111, 103]⟩, .string ⟨#[103, 101, 105]⟩, .string ⟨#[115, 101, 116, 116, 108, 101]⟩, .string ⟨#[]⟩, .string ⟨#[115, 112, 111, 105, 108]⟩, .string ⟨#[110, 97, 120]⟩, .string ⟨#[108, 105, 115, 116]⟩, .string ⟨#[]⟩]
theorem scrSize : (Tryz.prog.info? 72).map (·.size) = some 18 := by kernel_rfl
theorem scrOne : scrCells.all (·.oneCell') = true := by
  rw [Array.all_eq_true']
  intro v hv
  have : v ∈ scrCells.toList := Array.mem_toList_iff.2 hv
  simp only [scrCells, List.mem_cons, List.not_mem_nil, or_false] at this
  rcases this with h | h | h | h | h | h | h | h | h | h | h | h | h | h | h | h | h | h <;> subst h <;> rfl
set_option maxRecDepth 100000 in
theorem scrForms_any (w : World) : Calls Tryz.prog 28 #[] w fun e w' => e = .returned (.agg scrCells) ∧ Gr w w' := by
  have HO := Lib.hid scrOne
  have hb : Hid (Below w.heap.size w ((w.alloc (.cells (reps 18 (.string ⟨#[]⟩)).toArray 72)).setRow w.heap.size scrCells)) := below_row39 ((Below.refl _ _).alloc (Nat.le_refl _) _) (Nat.le_refl _) _
  have HN : Hid (((w.alloc (.cells (reps 18 (.string ⟨#[]⟩)).toArray 72)).setRow w.heap.size scrCells).heap[w.heap.size]? = some (.cells scrCells 72 (0, 0))) := setRow_heap _ w.heap.size _ _ _ _ (heap_alloc_new w _)
  go_enter Tryz.func28, Tryz.ntmps28
  go_wp2_with (refine wpList_store_row rfl 72 (.tmp 0) (.tmp 8) rfl w.heap.size scrCells rfl rfl 72 (reps 18 (.string ⟨#[]⟩)).toArray (by exact heap_alloc_new w _) scrSize rfl HO.out ?_)
  exact bodyPost_ret (v := .agg scrCells) (results_cell_row Tryz.results28 _ _ w.heap.size 72 _ (0, 0) _ rfl HN.out Tryz.underlying72 rfl scrSize) rfl ⟨rfl, hb.out⟩
theorem scrCells_w (k : Nat) (hk : k < 9) : scrCells.toList[2 * k]? = some (strc (scrW k)) := by
  rcases show k = 0 ∨ k = 1 ∨ k = 2 ∨ k = 3 ∨ k = 4 ∨ k = 5 ∨ k = 6 ∨ k = 7 ∨ k = 8 by omega with rfl | rfl | rfl | rfl | rfl | rfl | rfl | rfl | rfl <;> rfl
theorem scrCells_s (k : Nat) (hk : k < 9) : scrCells.toList[2 * k + 1]? = some (strc (scrS k)) := by
  rcases show k = 0 ∨ k = 1 ∨ k = 2 ∨ k = 3 ∨ k = 4 ∨ k = 5 ∨ k = 6 ∨ k = 7 ∨ k = 8 by omega with rfl | rfl | rfl | rfl | rfl | rfl | rfl | rfl | rfl <;> rfl
theorem isScr_any (x y z : ByteArray) (V b o n c : Nat) (w : World) (hv : w.cell? ⟨V, 0, none⟩ = some (.slice (some ⟨b, o, none⟩) n c)) (hz : w.cell? ⟨b, o, none⟩ = some (.string z)) (hn : 0 < n) :
    Calls Tryz.prog 30 #[.agg #[.string x, .string y], .pointer (some ⟨V, 0, none⟩)] w fun e w' => e = .returned (.bool (x.toList == z.toList && !(x.toList == []))) ∧ Gr w w' := by
  have g0 : Gr w (w.alloc (.cells #[.string x, .string y] 71)) := Gr.alloc w _
  obtain ⟨wl, hwl⟩ : ∃ wl, wl = w.alloc (.cells #[.string x, .string y] 71) := ⟨_, rfl⟩
  have c0 : wl.cell? ⟨w.heap.size, 0, none⟩ = some (.string x) := by rw [hwl, (Blk.new w _ _).cell]; rfl
  rw [← hwl] at g0
  have c1 := (g0.cell (p := ⟨V, 0, none⟩) (World.block_lt_of_cell? w _ hv)).trans hv
  have c2 := (g0.cell (p := ⟨b, o, none⟩) (World.block_lt_of_cell? w _ hz)).trans hz
  have hn0 : (0 : Int) < (n : Int) := by omega
  have G0 := Lib.hid g0
  have HWL := Lib.hid hwl
  clear g0 hwl hv hz
  go_enter Tryz.func30, Tryz.ntmps30
  cases t0 : (x.toList != ([] : List UInt8)) with
  | false =>
    have t0' : x.toList = [] := by simpa using t0
    go_wp2_with fail
    rw [← HWL.out]
    go_quiet (fail)
    go_wp2
    go_ret
    exact ⟨by rw [t0']; simp, G0.out.trans (belowN (Gr.refl _) _)⟩
  | true =>
    have t0' : (x.toList == ([] : List UInt8)) = false := by simpa using t0
    cases t1 : (x.toList == z.toList) with
    | true =>
      go_wp2_with fail
      rw [← HWL.out]
      go_quiet (fail)
      go_wp2
      go_ret
      exact ⟨by simp [t0'], G0.out.trans (belowN (Gr.refl _) _)⟩
    | false =>
      go_wp2_with fail
      rw [← HWL.out]
      go_quiet (fail)
      go_wp2
      go_ret
      exact ⟨by simp, G0.out.trans (belowN (Gr.refl _) _)⟩
def isScr (w : List UInt8) (k : Nat) : Bool := scrW k == w && !(scrW k == [])
theorem scr_hit {w : List UInt8} {k : Nat} (hk : k < 9) (h : isScr w k = true) (hj : ∀ j, j < k → isScr w j = false) : scrK w = k := by
  unfold scrK
  have : (List.range 9).find? (isScr w) = some k := by
    rw [List.find?_range_eq_some]
    exact ⟨h, by simpa using hk, fun j hjk => by rw [hj j hjk]; rfl⟩
  show ((List.range 9).find? (isScr w)).getD 9 = k
  rw [this]
  rfl
theorem scr_miss {w : List UInt8} (hj : ∀ j, j < 9 → isScr w j = false) : scrK w = 9 := by
  show ((List.range 9).find? (isScr w)).getD 9 = 9
  have : (List.range 9).find? (isScr w) = none := by
    rw [List.find?_eq_none]
    intro x hx
    rw [hj x (by simpa using hx)]
    decide
  rw [this]
  rfl
set_option maxRecDepth 100000 in
theorem scrIx_any (F V b o n c : Nat) (z : List UInt8) (w : World) (hF : Blk w F 72 scrCells.toList) (hv : w.cell? ⟨V, 0, none⟩ = some (.slice (some ⟨b, o, none⟩) n c)) (hz : w.cell? ⟨b, o, none⟩ = some (strc z)) (hn : 0 < n) :
    Calls Tryz.prog 29 #[.slice (some ⟨F, 0, none⟩) 9 9, .func (.func 30) #[] #[.pointer (some ⟨V, 0, none⟩)]] w fun e w' => e = .returned (.int .i64 (if scrK z < 9 then (scrK z : Int) else -1)) ∧ Gr w w' := by
  have HC : Hid (∀ (x y : ByteArray) wr, Gr w wr → Calls Tryz.prog 30 #[.agg #[.string x, .string y], .pointer (some ⟨V, 0, none⟩)] wr fun e w' => e = .returned (.bool (x.toList == z && !(x.toList == []))) ∧ Gr wr w') := fun x y wr g => by
    have h := isScr_any x y ⟨z.toArray⟩ V b o n c wr ((g.cell (p := ⟨V, 0, none⟩) (World.block_lt_of_cell? w _ hv)).trans hv) ((g.cell (p := ⟨b, o, none⟩) (World.block_lt_of_cell? w _ hz)).trans hz) hn
    rw [show (⟨z.toArray⟩ : ByteArray).toList = z by rw [ByteArray.toList_eq]] at h
    exact h
  have HF := Lib.hid hF
  clear hF hv hz
  obtain ⟨r, hr⟩ : ∃ r : Int, r = if scrK z < 9 then (scrK z : Int) else -1 := ⟨_, rfl⟩
  rw [← hr]
  have HR := Lib.hid hr; clear hr
  go_enter Tryz.func29, Tryz.ntmps29
  go_wp2
  go_loopw [8] (fun i wr => ∃ k : Nat, k ≤ 9 ∧ i = .int .i64 k ∧ Gr w wr ∧ ∀ j, j < k → isScr z j = false) (fun i _ => 9 - (intOf i).toNat)
  case atStart => exact ⟨0, by omega, rfl, Gr.refl _, fun j h => by omega⟩
  case round =>
    obtain ⟨k, hk, rfl, g, hj⟩ := hrel
    have HJ := Lib.hid hj; have G := Lib.hid g; clear hj g
    by_cases hlt : k < 9
    · have t1 : decide ((k : Int) < 9) = true := decide_eq_true (by omega)
      have hi : (k : Int) < 9 := by omega
      obtain ⟨x, hx⟩ : ∃ x : ByteArray, x = ⟨(scrW k).toArray⟩ := ⟨_, rfl⟩
      obtain ⟨y, hy⟩ : ∃ y : ByteArray, y = ⟨(scrS k).toArray⟩ := ⟨_, rfl⟩
      have hxl : x.toList = scrW k := by rw [hx, ByteArray.toList_eq]
      have c0 : wr.cell? ⟨F, k * 2, none⟩ = some (.string x) := by
        rw [(HF.out.mono G.out).cell, Nat.mul_comm, scrCells_w k hlt, hx]; rfl
      have c1 : wr.cell? ⟨F, k * 2 + 1, none⟩ = some (.string y) := by
        rw [(HF.out.mono G.out).cell, Nat.mul_comm, scrCells_s k hlt, hy]; rfl
      have HCC := Lib.hid (HC.out x y wr G.out)
      rw [hxl] at HCC
      clear hx hy hxl
      cases hb : isScr z k with
      | true =>
        have hb2 : (scrW k == z && !(scrW k == [])) = true := hb
        rw [hb2] at HCC
        have HX : Hid (r = (k : Int)) := by
          show _ = _
          have := scr_hit hlt hb HJ.out
          rw [HR.out, this, if_pos hlt]
        clear hb hb2
        go_wp2_with fail
        refine HCC.out.mono ?_
        rintro e w2 ⟨rfl, g2⟩
        have G2 := Lib.hid g2; clear g2
        go_wp2_with fail
        go_ret
        exact ⟨by rw [HX.out]; rfl, G.out.trans G2.out⟩
      | false =>
        have hb2 : (scrW k == z && !(scrW k == [])) = false := hb
        rw [hb2] at HCC
        have HN : Hid (∀ j, j < k + 1 → isScr z j = false) := fun j h => by
          rcases Nat.lt_succ_iff_lt_or_eq.1 h with h | rfl
          · exact HJ.out j h
          · exact hb
        clear hb hb2
        go_wp2_with fail
        refine HCC.out.mono ?_
        rintro e w2 ⟨rfl, g2⟩
        have G2 := Lib.hid g2; clear g2
        go_wp2_with fail
        refine ⟨⟨k + 1, by omega, by first | trivial | go_num, G.out.trans G2.out, HN.out⟩, ?_⟩
        show 9 - ((k : Int) + 1).toNat < 9 - (k : Int).toNat
        omega
    · obtain rfl : k = 9 := by omega
      have HX : Hid (r = -1) := by
        show _ = _
        rw [HR.out, scr_miss HJ.out]; rfl
      go_wp2
      go_ret
      exact ⟨by rw [HX.out]; rfl, G.out⟩
end Go.Proofs.YtadenlhnfkccaaaGreatDoor

namespace Go.Proofs.YtadenlhnfkccaaaGreatDoor
open Go.RowKit
set_option linter.unusedVariables false

/-! ### slices of numbers -/
theorem tNums : ElemT Tryz.prog 25 3 (.int .i64 0) 1 8 := ⟨Tryz.underlying25, by kernel_rfl, rfl, by decide, by decide⟩
def RetIs (w : World) (l : List Int) (e : Ending) (w' : World) : Prop := ∃ v, e = .returned v ∧ Own w w' 3 1 v l.length (l.map i64c)
theorem Is.len {w : World} {A : Option Addr} {n c : Nat} {l : List Int} (h : Is w A n c l) : l.length = n := by have := Sl.len h; simpa using this
theorem Is.addr {w : World} {A : Option Addr} {n c : Nat} {l : List Int} (h : Is w A n c l) (hn : 0 < n) :
    ∃ b o, A = some ⟨b, o, none⟩ ∧ ∀ j, j < n → w.cell? ⟨b, o + j, none⟩ = some (.int .i64 (iAt l j)) := by
  obtain ⟨b, o, e, hc⟩ := Sl.addr h hn
  exact ⟨b, o, e, fun j hj => hc j _ (by
    have : j < l.length := by rw [h.len]; exact hj
    rw [List.getElem?_map, List.getElem?_eq_getElem this]; simp [i64c, iAt, this])⟩
theorem takeI_same {a b : List Int} {k : Nat} (ha : k < a.length) (hb : k < b.length) (h : a.take k = b.take k) (he : iAt a k = iAt b k) : a.take (k + 1) = b.take (k + 1) := by
  rw [List.take_succ_eq_append_getElem ha, List.take_succ_eq_append_getElem hb, h]
  have : a[k] = b[k] := by simpa [iAt, ha, hb] using he
  rw [this]
theorem ne_of_iAt {a b : List Int} {k : Nat} (h : iAt a k ≠ iAt b k) : (a == b) = false := by
  rw [beq_eq_false_iff_ne]; rintro rfl; exact h rfl

/-! ### numbers -/
set_option maxHeartbeats 400000 in
theorem ints_any (A B : Option Addr) (n m c d : Nat) (a b : List Int) (w : World) (ha : Is w A n c a) (hb : Is w B m d b) :
    Calls Tryz.prog 23 #[.slice A n c, .slice B m d] w fun e w' => e = .returned (.bool (a == b)) ∧ ∃ k, w' = w.drewN k := by
  have hla := ha.len
  have hlb := hb.len
  have ma := ha.max
  have mb := hb.max
  have ca := ha.cap
  have cb := hb.cap
  by_cases hnm : n = m
  · subst hnm
    have HA := Lib.hid ha; have HB := Lib.hid hb; clear ha hb
    have HLA := Lib.hid hla; have HLB := Lib.hid hlb; clear hla hlb
    have t1 : ((n : Int) != (n : Int)) = false := by simp
    go_enter Tryz.func23, Tryz.ntmps23
    go_wp2
    clear t1
    go_loopw [5] (fun i wr => ∃ k q : Nat, k ≤ n ∧ i = .int .i64 k ∧ wr = w.drewN q ∧ a.take k = b.take k) (fun i _ => n - (intOf i).toNat)
    case atStart => exact ⟨0, 0, Nat.zero_le _, rfl, rfl, rfl⟩
    case round =>
      obtain ⟨k, q, hk, rfl, rfl, hsame⟩ := hrel
      have HSM := Lib.hid hsame; clear hsame
      by_cases hlt : k < n
      · obtain ⟨b1, o1, rfl, hc1⟩ := HA.out.addr (by omega)
        obtain ⟨b2, o2, rfl, hc2⟩ := HB.out.addr (by omega)
        have c1 : w.cell? ⟨b1, o1 + k, none⟩ = some _ := hc1 k hlt
        have c2 : w.cell? ⟨b2, o2 + k, none⟩ = some _ := hc2 k hlt
        have HC1 := Lib.hid hc1; have HC2 := Lib.hid hc2; clear hc1 hc2
        by_cases he : iAt a k = iAt b k
        · have t1 : (iAt a k != iAt b k) = false := by simp [he]
          have HE := Lib.hid he; clear he
          go_wp2
          go_quiet (fail)
          go_wp2
          go_roundw
          case rel => exact ⟨k + 1, _, by omega, by go_num, rfl, takeI_same (by rw [HLA.out]; exact hlt) (by rw [HLB.out]; exact hlt) HSM.out HE.out⟩
          case measure => simp [intOf]; omega
        · have t1 : (iAt a k != iAt b k) = true := by simpa using he
          have HE := Lib.hid (ne_of_iAt he); clear he
          go_wp2
          go_quiet (fail)
          go_wp2
          go_ret
          exact ⟨ret_bool HE.out.symm, _, World.drewN_drewN _ _ _⟩
      · obtain rfl : k = n := by omega
        have HE : Hid ((a == b) = true) := by
          have h := HSM.out
          rw [List.take_of_length_le (by rw [HLA.out]; omega), List.take_of_length_le (by rw [HLB.out]; omega)] at h
          exact beq_iff_eq.2 h
        go_wp2
        go_ret
        exact ⟨ret_bool HE.out.symm, _, rfl⟩
  · have t1 : ((n : Int) != (m : Int)) = true := by rw [bne_iff_ne]; omega
    have HE : Hid ((a == b) = false) := by
      apply beq_eq_false_iff_ne.2
      rintro rfl
      omega
    clear ha hb
    go_enter Tryz.func23, Tryz.ntmps23
    go_wp2
    go_ret
    exact ⟨ret_bool HE.out.symm, 0, rfl⟩
end Go.Proofs.YtadenlhnfkccaaaGreatDoor

/- Lines of scripts: a line in memory; which ones are kept. No condition. -/
namespace Go.Proofs.YtadenlhnfkccaaaGreatDoor
open Go.RowKit
set_option linter.unusedVariables false
set_option linter.unusedSimpArgs false
/-- A line, and where its three rows lie. -/
structure LnV where
  d : LnD
  A : Option Addr
  c : Nat
  B : Option Addr
  q : Nat
  C : Option Addr
  s : Nat
def LnV.cells (x : LnV) : List Value := [.int .i64 x.d.k, .int .i64 x.d.o.k, strc x.d.o.g, strc x.d.o.i, .int .i64 x.d.o.e, .int .i64 x.d.o.s, .int .i64 x.d.o.n, .int .i64 x.d.o.v, .slice x.A x.d.o.x.length x.c, .int .i64 x.d.n, .slice x.B x.d.p.length x.q, .int .i64 x.d.t, .int .i64 x.d.a, strc x.d.g, .int .i64 x.d.e, strc x.d.i, .slice x.C x.d.b.length x.s]
def LnV.arr (x : LnV) : Array Value := x.cells.toArray
structure LnAt (w : World) (x : LnV) : Prop where
  o : Bs w x.A x.d.o.x.length x.c x.d.o.x
  p : Is w x.B x.d.p.length x.q x.d.p
  b : Bs w x.C x.d.b.length x.s x.d.b
theorem LnAt.gr {w w' : World} {x : LnV} (h : LnAt w x) (g : Gr w w') : LnAt w' x := ⟨h.o.mono g, h.p.mono g, h.b.mono g⟩
theorem LnV.one (x : LnV) : ∀ u ∈ x.cells, u.oneCell' = true := by
  intro v hv
  simp only [LnV.cells, List.mem_cons, List.not_mem_nil, or_false] at hv
  rcases hv with h | h | h | h | h | h | h | h | h | h | h | h | h | h | h | h | h <;> subst h <;> rfl
theorem LnV.len (x : LnV) : x.cells.length = 17 := rfl
theorem lnOne (x : LnV) : x.arr.all (·.oneCell') = true := by
  rw [Array.all_eq_true']
  intro v hv
  exact x.one v (by simpa [LnV.arr] using hv)
theorem lnSize : (Tryz.prog.info? 37).map (·.size) = some 17 := by kernel_rfl
/-- Its rows lie in new memory. -/
structure LnNew (w : World) (x : LnV) : Prop where
  o : ∀ b q, x.A = some ⟨b, q, none⟩ → 0 < x.d.o.x.length → w.heap.size ≤ b
  p : ∀ b q, x.B = some ⟨b, q, none⟩ → 0 < x.d.p.length → w.heap.size ≤ b
  b : ∀ b q, x.C = some ⟨b, q, none⟩ → 0 < x.d.b.length → w.heap.size ≤ b
def RetLn (w : World) (r : LnD × Nat) (e : Ending) (w' : World) : Prop := ∃ x, e = .returned (.tuple #[.agg (LnV.arr x), .int .i64 (r.2 : Int)]) ∧ x.d = r.1 ∧ LnAt w' x ∧ Gr w w' ∧ LnNew w x
theorem results_ln {fn : Func} {p u : Tmp} (h : fn.results = #[.cell p 37, .tmp u]) (tmps : Array Value) (w : World) (g : Nat) (t : TypeId) (cs : Array Value)
    (hp : tmps.getD p undef = .pointer (some ⟨g, 0, none⟩)) (hg : w.heap[g]? = some (.cells cs t (0, 0))) (hc : cs.size = 17) :
    (results fn tmps).run Tryz.prog w = .ok (.tuple #[.agg cs, tmps.getD u undef]) w := by
  rw [results_cell_tmp h, hp]
  simp only [asAddr, Sem.run_pure, Result.andThen, run_loadVar_row w g t 37 cs (0, 0) _ hg Tryz.underlying37 rfl (by rw [lnSize, hc])]
/-! ### which ones are kept -/
def keepL' (w : List UInt8) : List Int := w.map fun c => (c.toNat : Int) - 48
theorem Own.not_iterR {w0 w : World} {e : TypeId} {s n I : Nat} {v : Value} {xs : List Value} {t : ByteArray} {k : Nat} (h : Own w0 w e s v n xs) (hi : w.heap[I]? = some (.stringIter t k)) : v.ownBlock ≠ some I := by
  intro hv
  rcases h.1.2 with ⟨h1, _⟩ | ⟨g', cap, cur, hv', _, hh, _⟩
  · rw [h1] at hv; cases hv
  · have e1 : g' = I := by rw [hv'] at hv; exact Option.some.inj hv
    rw [e1, hi] at hh
    cases hh
/-- The first blocks of a world. -/
def cutR (w : World) (n : Nat) : World := { w with heap := w.heap.extract 0 n }
theorem cutR_size {w : World} {n : Nat} (h : n ≤ w.heap.size) : (cutR w n).heap.size = n := by simp [cutR]; omega
theorem cutR_at {w : World} {n k : Nat} (h : k < n) (hn : n ≤ w.heap.size) : (cutR w n).heap[k]? = w.heap[k]? := by
  simp [cutR, Array.getElem?_extract]; omega
theorem cutR_below {w : World} {n : Nat} (h : n ≤ w.heap.size) : Below n (cutR w n) w := ⟨rfl, rfl, rfl, by rw [cutR_size h]; exact h, fun k hk => (cutR_at hk h).symm⟩
theorem own_cut {w : World} {B : Nat} {e : TypeId} {s n : Nat} {v : Value} {xs : List Value} (h : w.ownsRow B e s v n xs) (hB : B ≤ w.heap.size) : Own (cutR w B) w e s v n xs := by
  refine ⟨?_, ?_⟩
  · rw [cutR_size hB]; exact h
  · rw [cutR_size hB]; exact cutR_below hB
structure KpSt (w wr : World) (R I : Nat) (s : ByteArray) (us : List Value) (k : Nat) (v : Value) (xs : List Value) : Prop where
  r : Blk wr R 79 (us.set 10 v)
  own : wr.ownsRow w.heap.size 3 1 v k xs
  it : wr.heap[I]? = some (.stringIter s k)
  t : Tch (fun q => q = R) w wr
  rl : R < w.heap.size
  il : w.heap.size ≤ I
section
variable {w wr : World} {R I : Nat} {s : ByteArray} {us : List Value} {k : Nat} {v : Value} {xs : List Value}
theorem KpSt.next (h : KpSt w wr R I s us k v xs) (k' : Nat) : Blk (wr.iterAt I s k') R 79 (us.set 10 v) ∧ Own (cutR (wr.iterAt I s k') w.heap.size) (wr.iterAt I s k') 3 1 v k xs ∧ (wr.iterAt I s k').heap[I]? = some (.stringIter s k') ∧ Tch (fun q => q = R) w (wr.iterAt I s k') := by
  have hRI : R ≠ I := by have := h.rl; have := h.il; omega
  refine ⟨(Lib.iterAt_other wr I R s k' hRI).trans h.r, own_cut ⟨h.own.1, ?_⟩ (by rw [Lib.iterAt_size]; exact h.t.size), Lib.iterAt_heap wr I s k k' h.it, h.t.trans' (Tch.iterAt wr I s k') (fun x hx e => by have := h.il; omega)⟩
  rcases h.own.2 with q | ⟨g, cap, cur, hv, hg, hh, r⟩
  · exact .inl q
  · refine .inr ⟨g, cap, cur, hv, hg, (Lib.iterAt_other wr I g s k' ?_).trans hh, r⟩
    rintro rfl
    rw [h.it] at hh; cases hh
theorem KpSt.push (h : KpSt w wr R I s us k v xs) {n v5 : Value} {w5 : World} (o : Own (cutR (wr.iterAt I s (k + 1)) w.heap.size) w5 3 1 v5 (k + 1) (xs ++ [n])) (kp : Kept ((wr.iterAt I s (k + 1)).alloc (.cells #[n] 3)) w5 v v5) :
    Blk w5 R 79 (us.set 10 v) ∧ KpSt w (w5.setCell ⟨R, 10, none⟩ v5) R I s us (k + 1) v5 (xs ++ [n]) := by
  obtain ⟨hr, own, hi, ht⟩ := h.next (k + 1)
  have hsz : (cutR (wr.iterAt I s (k + 1)) w.heap.size).heap.size = w.heap.size := cutR_size ht.size
  have hrl := h.rl
  have hil := h.il
  have hRI : R ≠ I := by omega
  have oa := own.alloc (.cells #[n] 3)
  have T := Tch.kept kp o oa.2
  have hra := hr.alloc (.cells #[n] 3)
  have nR : v.ownBlock ≠ some R := oa.not_blk hra (by decide)
  have hr5 := hra.tch T nR
  have hilt : I < (wr.iterAt I s (k + 1)).heap.size := (Array.getElem?_eq_some_iff.1 hi).1
  have hia : ((wr.iterAt I s (k + 1)).alloc (.cells #[n] 3)).heap[I]? = some (.stringIter s (k + 1)) := (Below.heap_alloc _ _ I hilt).trans hi
  have nI : v.ownBlock ≠ some I := oa.not_iterR hia
  have hi5 := (T.keep I (Array.getElem?_eq_some_iff.1 hia).1 nI).trans hia
  have o1 := o.1
  rw [hsz] at o1
  refine ⟨hr5, ?_, ownsRow_setCell_below o1 hrl v5, (Below.heap_setCell w5 ⟨R, 10, none⟩ v5 I (fun e => hRI e.symm)).trans hi5, ?_, hrl, hil⟩
  · have := hr5.set 10 v5
    rwa [List.set_set] at this
  · refine ((ht.trans (Tch.gr (Gr.alloc _ _))).trans' T (fun x hx e => ?_)).trans (Tch.set ⟨R, 10, none⟩ v5 rfl)
    have := (World.ownsRow.lt oa.1 x e).1
    omega
end
theorem keep_step {l : List UInt8} {k : Nat} (h : k < l.length) : (keepL' (l.take (k + 1))) = keepL' (l.take k) ++ [((l[k].toNat : Int) - 48)] := by
  unfold keepL'
  rw [List.take_succ_eq_append_getElem h, List.map_append]; rfl
set_option maxRecDepth 100000 in
set_option maxHeartbeats 2000000 in
theorem keep_any (R : Nat) (us : List Value) (h17 : us.length = 17) (l : List UInt8) (w : World) (hl : l.length ≤ 100000) (hR : Blk w R 79 us) :
    Calls Tryz.prog 58 #[.pointer (some ⟨R, 0, none⟩), strc l] w fun e w' => e = .returned (.bool (keepB l)) ∧ (keepB l = true → ∃ B q, Blk w' R 79 (us.set 10 (.slice B (keepL l).length q)) ∧ Is w' B (keepL l).length q (keepL l) ∧ ∀ b o, B = some ⟨b, o, none⟩ → 0 < (keepL l).length → R < b) ∧ Tch (fun q => q = R) w w' := by
  obtain ⟨s, hs⟩ : ∃ s : ByteArray, s = ⟨l.toArray⟩ := ⟨_, rfl⟩
  have hsz : s.size = l.length := by rw [hs]; exact size_of' l
  have hsl : s.toList = l := by rw [hs, ByteArray.toList_eq]
  have HAT := Lib.hid (at_of l s hs)
  have hss : strc l = .string s := by rw [hs]; rfl
  rw [hss]
  clear hs hss
  have c1 : w.cell? ⟨R, 10, none⟩ = some (us[10]'(by omega)) := (hR.cell 10).trans (List.getElem?_eq_getElem (by omega))
  have f1 := hR.free 10
  have HR := Lib.hid hR
  have hrl := hR.lt
  clear hR
  go_enter Tryz.func58, Tryz.ntmps58
  by_cases hd : l = [45]
  · have td : (s.toList == ([45] : List UInt8)) = true := by rw [hsl, hd]; rfl
    have HK : Hid (keepB l = true ∧ keepL l = []) := by subst hd; exact ⟨rfl, rfl⟩
    clear hsl
    go_wp2_with fail
    go_ret
    exact ⟨by rw [HK.out.1]; rfl, fun _ => by rw [HK.out.2]; exact ⟨none, 0, HR.out.set 10 _, Sl.nil _ _, fun b o e => by cases e⟩, Tch.set _ _ rfl⟩
  · have td : (s.toList == ([45] : List UInt8)) = false := by rw [hsl]; exact beq_false_of_ne hd
    have HKB : Hid (keepB l = (l.all (fun c => c == 48 || c == 49) && decide (1 ≤ l.length) && decide (l.length ≤ 64))) := by show _ = _; unfold keepB; rw [beq_false_of_ne hd, Bool.false_or]
    have HKL : Hid (keepL l = keepL' l) := by show _ = _; unfold keepL; rw [if_neg hd]; rfl
    have HSL := Lib.hid hsl
    have hlsz := hsz
    clear hsl hd
    go_wp2_with fail
    have hI : ((w.setCell ⟨R, 10, none⟩ (.slice none 0 0)).iter s 0).heap[w.heap.size]? = some (.stringIter s 0) := by
      have := heap_alloc_new (w.setCell ⟨R, 10, none⟩ (.slice none 0 0)) (.stringIter s 0)
      rw [show (w.setCell ⟨R, 10, none⟩ (.slice none 0 0)).heap.size = w.heap.size by simp [World.setCell]] at this
      exact this
    have ST0 : Hid (KpSt w ((w.setCell ⟨R, 10, none⟩ (.slice none 0 0)).iter s 0) R w.heap.size s us 0 (.slice none 0 0) []) :=
      ⟨(HR.out.set 10 _).alloc _, World.ownsRow_nil _ _ _ _, hI, (Tch.set (S := fun q => q = R) (w := w) ⟨R, 10, none⟩ (.slice none 0 0) rfl).trans (Tch.gr (Gr.alloc _ _)), hrl, Nat.le_refl _⟩
    clear hI c1 f1
    go_loopw [6] (fun _ wr => ∃ (k : Nat) (v : Value), k ≤ s.size ∧ (l.take k).all (fun c => c == 48 || c == 49) = true ∧ KpSt w wr R w.heap.size s us k v ((keepL' (l.take k)).map i64c)) (fun _ wr => s.size - wr.iterPos w.heap.size)
    case atStart => exact ⟨0, _, Nat.zero_le _, rfl, ST0.out⟩
    case round =>
      obtain ⟨k, v, hk, hok, st⟩ := hrel
      have HOK := Lib.hid hok; have ST := Lib.hid st
      have hit := st.it
      clear hok st
      by_cases hlt : k < s.size
      · have hkl : k < l.length := by omega
        have hsc : ((s[k]'hlt).toNat : Int) = (l[k].toNat : Int) := by
          rw [HAT.out k hlt]
          unfold bAt
          rw [List.getD_eq_getElem?_getD, List.getElem?_eq_getElem hkl]; rfl
        have HSTP := Lib.hid (keep_step hkl)
        have HALL : Hid ((l.take (k + 1)).all (fun c => c == 48 || c == 49) = ((l.take k).all (fun c => c == 48 || c == 49) && (l[k] == 48 || l[k] == 49))) := by
          show _ = _
          rw [List.take_succ_eq_append_getElem hkl, List.all_append]; simp
        have HBAD : Hid ((l[k] == 48 || l[k] == 49) = false → keepB l = false) := fun h => by
          rw [HKB.out, List.all_eq_false.2 ⟨l[k], List.getElem_mem hkl, by rw [h]; decide⟩]; rfl
        generalize l[k] = ch at *
        have hok2 := HOK.out
        by_cases hc48 : ch = 48
        · have hnx : ∀ ty, (Instr.next (.pointer (some ⟨w.heap.size, 0, none⟩)) true ty).run Tryz.prog wr = .ok (.tuple #[.bool true, .int .i64 k, .int .i32 48]) (wr.iterAt w.heap.size s (k + 1)) := fun ty => by
            have hs8 : (s[k]'hlt).toNat = 48 := by rw [hc48] at hsc; have : (((48 : UInt8)).toNat : Int) = 48 := rfl; omega
            rw [Lib.run_next_ascii_at wr w.heap.size s k ty hit hlt (by omega), hs8]
            rfl
          have HE : Hid ((keepL' (l.take (k + 1))).map i64c = (keepL' (l.take k)).map i64c ++ [Value.int .i64 0]) := by show _ = _; rw [HSTP.out, hc48, List.map_append]; rfl
          have HA2 : Hid ((l.take (k + 1)).all (fun c => c == 48 || c == 49) = true) := by show _ = _; rw [HALL.out, hok2, hc48]; rfl
          obtain ⟨hr, ho, hi, ht⟩ := ST.out.next (k + 1)
          have OW := Lib.hid ho
          have c5 : (wr.iterAt w.heap.size s (k + 1)).cell? ⟨R, 10, none⟩ = some v := (hr.cell 10).trans (by rw [List.getElem?_set_self (by omega)])
          clear hr ho hi ht hsc hok2 hc48
          go_wp2_with (at_builtin; go_loud (refine wpList_pushG rfl (.tmp 29) (.tmp 33) 25 rfl tNums rfl OW.out #[Value.int .i64 0] rfl rfl (by intro u hu; simp at hu; subst hu; rfl) (by omega) ?_); intro v5 w5 o5 k5; obtain ⟨B5, q5, rfl, _⟩ := o5.slice; obtain ⟨b5, s5⟩ := ST.out.push o5 k5; have c10 : w5.cell? ⟨R, 10, none⟩ = some v := (b5.cell 10).trans (by rw [List.getElem?_set_self (by omega)]); have f10 := b5.free 10; have S5 := Lib.hid s5; clear b5 s5 o5 k5)
          refine ⟨⟨k + 1, _, by omega, HA2.out, by rw [HE.out]; exact S5.out⟩, ?_⟩
          have h1 := S5.out.it
          simp only [World.iterPos, h1, hit]
          omega
        by_cases hc49 : ch = 49
        · have hnx : ∀ ty, (Instr.next (.pointer (some ⟨w.heap.size, 0, none⟩)) true ty).run Tryz.prog wr = .ok (.tuple #[.bool true, .int .i64 k, .int .i32 49]) (wr.iterAt w.heap.size s (k + 1)) := fun ty => by
            have hs8 : (s[k]'hlt).toNat = 49 := by rw [hc49] at hsc; have : (((49 : UInt8)).toNat : Int) = 49 := rfl; omega
            rw [Lib.run_next_ascii_at wr w.heap.size s k ty hit hlt (by omega), hs8]
            rfl
          have HE : Hid ((keepL' (l.take (k + 1))).map i64c = (keepL' (l.take k)).map i64c ++ [Value.int .i64 1]) := by show _ = _; rw [HSTP.out, hc49, List.map_append]; rfl
          have HA2 : Hid ((l.take (k + 1)).all (fun c => c == 48 || c == 49) = true) := by show _ = _; rw [HALL.out, hok2, hc49]; rfl
          obtain ⟨hr, ho, hi, ht⟩ := ST.out.next (k + 1)
          have OW := Lib.hid ho
          have c5 : (wr.iterAt w.heap.size s (k + 1)).cell? ⟨R, 10, none⟩ = some v := (hr.cell 10).trans (by rw [List.getElem?_set_self (by omega)])
          clear hr ho hi ht hsc hok2 hc49
          go_wp2_with (at_builtin; go_loud (refine wpList_pushG rfl (.tmp 29) (.tmp 33) 25 rfl tNums rfl OW.out #[Value.int .i64 1] rfl rfl (by intro u hu; simp at hu; subst hu; rfl) (by omega) ?_); intro v5 w5 o5 k5; obtain ⟨B5, q5, rfl, _⟩ := o5.slice; obtain ⟨b5, s5⟩ := ST.out.push o5 k5; have c10 : w5.cell? ⟨R, 10, none⟩ = some v := (b5.cell 10).trans (by rw [List.getElem?_set_self (by omega)]); have f10 := b5.free 10; have S5 := Lib.hid s5; clear b5 s5 o5 k5)
          refine ⟨⟨k + 1, _, by omega, HA2.out, by rw [HE.out]; exact S5.out⟩, ?_⟩
          have h1 := S5.out.it
          simp only [World.iterPos, h1, hit]
          omega
        have HF := Lib.hid (HBAD.out (by simp [hc48, hc49]))
        have hrn : (Utf8.decode s k).1 ≠ 48 ∧ (Utf8.decode s k).1 ≠ 49 := by
          rcases Nat.lt_or_ge (s[k]'hlt).toNat 128 with h | h
          · rw [decode_ascii s k hlt h]
            refine ⟨fun e => hc48 (UInt8.toNat_inj.1 ?_), fun e => hc49 (UInt8.toNat_inj.1 ?_)⟩
            · have e : (s[k]'hlt).toNat = 48 := e
              show ch.toNat = 48; omega
            · have e : (s[k]'hlt).toNat = 49 := e
              show ch.toNat = 49; omega
          · have := (decode_high s k hlt h).1
            omega
        have hnx : ∀ ty, (Instr.next (.pointer (some ⟨w.heap.size, 0, none⟩)) true ty).run Tryz.prog wr = _ := fun ty => Lib.run_next_any_at wr w.heap.size s k ty hit hlt
        have HT := Lib.hid (ST.out.next (k + (Utf8.decode s k).2)).2.2.2
        generalize (Utf8.decode s k).1 = rn at *
        generalize wr.iterAt w.heap.size s (k + (Utf8.decode s k).2) = wn at *
        have t1 : ((rn : Int) != 48) = true := bne_iff_ne.2 (by omega)
        have t2 : ((rn : Int) != 49) = true := bne_iff_ne.2 (by omega)
        clear hrn hc48 hc49 hsc hok2
        go_wp2_with fail
        go_ret
        exact ⟨by rw [HF.out]; rfl, fun h => (by rw [HF.out] at h; cases h), HT.out⟩
      · obtain rfl : k = s.size := by omega
        have hnx : ∀ ty, (Instr.next (.pointer (some ⟨w.heap.size, 0, none⟩)) true ty).run Tryz.prog wr = .ok (.tuple #[.bool false]) wr := fun ty => Lib.run_next_end_at wr w.heap.size s s.size ty hit hlt
        have htk : l.take s.size = l := List.take_of_length_le (by omega)
        rw [htk] at HOK ST
        obtain ⟨B, q, hv, sl⟩ := (own_cut ST.out.own ST.out.t.size).slice
        subst hv
        have c10 : wr.cell? ⟨R, 10, none⟩ = some (.slice B s.size q) := (ST.out.r.cell 10).trans (by rw [List.getElem?_set_self (by omega)])
        have HBK : Hid (keepB l = (decide (1 ≤ s.size) && decide (s.size ≤ 64))) := by show _ = _; rw [HKB.out, HOK.out, hsz]; rfl
        have hll : (keepL l).length = s.size := by rw [HKL.out]; unfold keepL'; simp [hsz]
        have HRES : Hid (keepB l = true → ∃ B q, Blk wr R 79 (us.set 10 (.slice B (keepL l).length q)) ∧ Is wr B (keepL l).length q (keepL l) ∧ ∀ b o, B = some ⟨b, o, none⟩ → 0 < (keepL l).length → R < b) := fun _ => by
          rw [hll]
          refine ⟨B, q, ST.out.r, by rw [HKL.out]; exact sl, fun b o e h0 => ?_⟩
          have := (World.ownsRow.lt ST.out.own b (by rw [e]; rfl)).1
          omega
        have HTT := Lib.hid ST.out.t
        clear htk hll sl
        by_cases h0 : 0 < s.size
        · by_cases h64 : s.size ≤ 64
          · have HF : Hid (keepB l = true) := by show _ = _; rw [HBK.out, decide_eq_true h64, decide_eq_true (by omega)]; rfl
            have t64 : Hid (decide ((l.length : Int) ≤ 64) = true) := decide_eq_true (by omega)
            go_wp2_with fail
            go_ret
            exact ⟨by rw [HF.out]; exact congrArg (fun b => Ending.returned (.bool b)) t64.out, HRES.out, HTT.out⟩
          · have HF : Hid (keepB l = false) := by show _ = _; rw [HBK.out, decide_eq_false h64, Bool.and_false]
            have t64 : Hid (decide ((l.length : Int) ≤ 64) = false) := decide_eq_false (by omega)
            go_wp2_with fail
            go_ret
            exact ⟨by rw [HF.out]; exact congrArg (fun b => Ending.returned (.bool b)) t64.out, HRES.out, HTT.out⟩
        · have HF : Hid (keepB l = false) := by show _ = _; rw [HBK.out, decide_eq_false (by omega)]; rfl
          go_wp2_with fail
          go_ret
          exact ⟨by rw [HF.out]; rfl, HRES.out, HTT.out⟩
end Go.Proofs.YtadenlhnfkccaaaGreatDoor

/- Lines of scripts: words read into a line. No condition. -/
namespace Go.Proofs.YtadenlhnfkccaaaGreatDoor
open Go.RowKit
set_option linter.unusedVariables false
set_option linter.unusedSimpArgs false
set_option maxRecDepth 100000 in
theorem rdt_110 (R : Nat) (us : List Value) (h17 : us.length = 17) (s : ByteArray) (pn pf : Int) (w : World) (hR : Blk w R 79 us)
    (HPA : Hid (Calls Tryz.prog 57 #[.string s, .int .i64 1073741824] w fun e w' => e = .returned (.tuple #[.int .i64 pn, .int .i64 pf]) ∧ Gr w w')) :
    Calls Tryz.prog 31 #[.pointer (some ⟨R, 0, none⟩), .int .i32 110, .string s] w fun e w' => e = .returned (.bool (pf == 0)) ∧ Blk w' R 79 (us.set 9 (.int .i64 pn)) ∧ Tch (fun q => q = R) w w' := by
  have HR := Lib.hid hR
  clear hR
  obtain ⟨pb, hpb⟩ : ∃ pb, pb = (pf == 0) := ⟨_, rfl⟩
  rw [← hpb]
  have HPB := Lib.hid hpb; clear hpb
  go_enter Tryz.func31, Tryz.ntmps31
  go_wp2_with fail
  refine HPA.out.mono ?_
  rintro e w1 ⟨rfl, g1⟩
  have B1 := Lib.hid (HR.out.mono g1)
  have c1 : w1.cell? ⟨R, 9, none⟩ = some (us[9]'(by omega)) := (B1.out.cell 9).trans (List.getElem?_eq_getElem (by omega))
  have f1 := B1.out.free 9
  have TC : Hid (Tch (fun q => q = R) w (w1.setCell ⟨R, 9, none⟩ (.int .i64 pn))) := (Tch.gr g1).trans (Tch.set ⟨R, 9, none⟩ (.int .i64 pn) rfl)
  clear g1
  go_wp2_with fail
  go_ret
  exact ⟨by rw [HPB.out]; rfl, B1.out.set 9 _, TC.out⟩
set_option maxRecDepth 100000 in
theorem rdt_116 (R : Nat) (us : List Value) (h17 : us.length = 17) (s : ByteArray) (pn pf : Int) (w : World) (hR : Blk w R 79 us)
    (HPA : Hid (Calls Tryz.prog 57 #[.string s, .int .i64 1073741824] w fun e w' => e = .returned (.tuple #[.int .i64 pn, .int .i64 pf]) ∧ Gr w w')) :
    Calls Tryz.prog 31 #[.pointer (some ⟨R, 0, none⟩), .int .i32 116, .string s] w fun e w' => e = .returned (.bool (pf == 0)) ∧ Blk w' R 79 (us.set 11 (.int .i64 pn)) ∧ Tch (fun q => q = R) w w' := by
  have HR := Lib.hid hR
  clear hR
  obtain ⟨pb, hpb⟩ : ∃ pb, pb = (pf == 0) := ⟨_, rfl⟩
  rw [← hpb]
  have HPB := Lib.hid hpb; clear hpb
  go_enter Tryz.func31, Tryz.ntmps31
  go_wp2_with fail
  refine HPA.out.mono ?_
  rintro e w1 ⟨rfl, g1⟩
  have B1 := Lib.hid (HR.out.mono g1)
  have c1 : w1.cell? ⟨R, 11, none⟩ = some (us[11]'(by omega)) := (B1.out.cell 11).trans (List.getElem?_eq_getElem (by omega))
  have f1 := B1.out.free 11
  have TC : Hid (Tch (fun q => q = R) w (w1.setCell ⟨R, 11, none⟩ (.int .i64 pn))) := (Tch.gr g1).trans (Tch.set ⟨R, 11, none⟩ (.int .i64 pn) rfl)
  clear g1
  go_wp2_with fail
  go_ret
  exact ⟨by rw [HPB.out]; rfl, B1.out.set 11 _, TC.out⟩
set_option maxRecDepth 100000 in
theorem rdt_97 (R : Nat) (us : List Value) (h17 : us.length = 17) (s : ByteArray) (pn pf : Int) (w : World) (hR : Blk w R 79 us)
    (HPA : Hid (Calls Tryz.prog 57 #[.string s, .int .i64 1073741824] w fun e w' => e = .returned (.tuple #[.int .i64 pn, .int .i64 pf]) ∧ Gr w w')) :
    Calls Tryz.prog 31 #[.pointer (some ⟨R, 0, none⟩), .int .i32 97, .string s] w fun e w' => e = .returned (.bool (pf == 0)) ∧ Blk w' R 79 (us.set 12 (.int .i64 pn)) ∧ Tch (fun q => q = R) w w' := by
  have HR := Lib.hid hR
  clear hR
  obtain ⟨pb, hpb⟩ : ∃ pb, pb = (pf == 0) := ⟨_, rfl⟩
  rw [← hpb]
  have HPB := Lib.hid hpb; clear hpb
  go_enter Tryz.func31, Tryz.ntmps31
  go_wp2_with fail
  refine HPA.out.mono ?_
  rintro e w1 ⟨rfl, g1⟩
  have B1 := Lib.hid (HR.out.mono g1)
  have c1 : w1.cell? ⟨R, 12, none⟩ = some (us[12]'(by omega)) := (B1.out.cell 12).trans (List.getElem?_eq_getElem (by omega))
  have f1 := B1.out.free 12
  have TC : Hid (Tch (fun q => q = R) w (w1.setCell ⟨R, 12, none⟩ (.int .i64 pn))) := (Tch.gr g1).trans (Tch.set ⟨R, 12, none⟩ (.int .i64 pn) rfl)
  clear g1
  go_wp2_with fail
  go_ret
  exact ⟨by rw [HPB.out]; rfl, B1.out.set 12 _, TC.out⟩
set_option maxRecDepth 100000 in
theorem rdt_101 (R : Nat) (us : List Value) (h17 : us.length = 17) (s : ByteArray) (pn pf : Int) (w : World) (hR : Blk w R 79 us)
    (HPA : Hid (Calls Tryz.prog 57 #[.string s, .int .i64 1073741824] w fun e w' => e = .returned (.tuple #[.int .i64 pn, .int .i64 pf]) ∧ Gr w w')) :
    Calls Tryz.prog 31 #[.pointer (some ⟨R, 0, none⟩), .int .i32 101, .string s] w fun e w' => e = .returned (.bool (pf == 0)) ∧ Blk w' R 79 (us.set 14 (.int .i64 pn)) ∧ Tch (fun q => q = R) w w' := by
  have HR := Lib.hid hR
  clear hR
  obtain ⟨pb, hpb⟩ : ∃ pb, pb = (pf == 0) := ⟨_, rfl⟩
  rw [← hpb]
  have HPB := Lib.hid hpb; clear hpb
  go_enter Tryz.func31, Tryz.ntmps31
  go_wp2_with fail
  refine HPA.out.mono ?_
  rintro e w1 ⟨rfl, g1⟩
  have B1 := Lib.hid (HR.out.mono g1)
  have c1 : w1.cell? ⟨R, 14, none⟩ = some (us[14]'(by omega)) := (B1.out.cell 14).trans (List.getElem?_eq_getElem (by omega))
  have f1 := B1.out.free 14
  have TC : Hid (Tch (fun q => q = R) w (w1.setCell ⟨R, 14, none⟩ (.int .i64 pn))) := (Tch.gr g1).trans (Tch.set ⟨R, 14, none⟩ (.int .i64 pn) rfl)
  clear g1
  go_wp2_with fail
  go_ret
  exact ⟨by rw [HPB.out]; rfl, B1.out.set 14 _, TC.out⟩
set_option maxRecDepth 100000 in
theorem rdt_103 (R : Nat) (us : List Value) (h17 : us.length = 17) (s : ByteArray) (pn pf : Int) (pb : Bool) (w : World) (hR : Blk w R 79 us)
    (HPA : Hid (Calls Tryz.prog 57 #[.string s, .int .i64 1073741824] w fun e w' => e = .returned (.tuple #[.int .i64 pn, .int .i64 pf]) ∧ Gr w w'))
    (HPT : Hid (∀ wr, Calls Tryz.prog 59 #[.string s] wr fun e w' => e = .returned (.bool pb) ∧ Gr wr w')) :
    Calls Tryz.prog 31 #[.pointer (some ⟨R, 0, none⟩), .int .i32 103, .string s] w fun e w' => e = .returned (.bool pb) ∧ Blk w' R 79 (us.set 13 (.string s)) ∧ Tch (fun q => q = R) w w' := by
  have HR := Lib.hid hR
  clear hR
  go_enter Tryz.func31, Tryz.ntmps31
  go_wp2_with fail
  refine HPA.out.mono ?_
  rintro e w1 ⟨rfl, g1⟩
  have B1 := Lib.hid (HR.out.mono g1)
  have c1 : w1.cell? ⟨R, 13, none⟩ = some (us[13]'(by omega)) := (B1.out.cell 13).trans (List.getElem?_eq_getElem (by omega))
  have f1 := B1.out.free 13
  have TC : Hid (Tch (fun q => q = R) w (w1.setCell ⟨R, 13, none⟩ (.string s))) := (Tch.gr g1).trans (Tch.set ⟨R, 13, none⟩ (.string s) rfl)
  have B2 := Lib.hid (B1.out.set 13 (.string s))
  clear g1
  go_wp2_with fail
  refine (HPT.out _).mono ?_
  rintro e w3 ⟨rfl, g3⟩
  have G3 := Lib.hid g3; clear g3
  go_wp2_with fail
  go_ret
  exact ⟨rfl, B2.out.mono G3.out, TC.out.trans (Tch.gr G3.out)⟩
set_option maxRecDepth 100000 in
theorem rdt_105 (R : Nat) (us : List Value) (h17 : us.length = 17) (s : ByteArray) (pn pf : Int) (pb : Bool) (w : World) (hR : Blk w R 79 us)
    (HPA : Hid (Calls Tryz.prog 57 #[.string s, .int .i64 1073741824] w fun e w' => e = .returned (.tuple #[.int .i64 pn, .int .i64 pf]) ∧ Gr w w'))
    (HPT : Hid (∀ wr, Calls Tryz.prog 59 #[.string s] wr fun e w' => e = .returned (.bool pb) ∧ Gr wr w')) :
    Calls Tryz.prog 31 #[.pointer (some ⟨R, 0, none⟩), .int .i32 105, .string s] w fun e w' => e = .returned (.bool pb) ∧ Blk w' R 79 (us.set 15 (.string s)) ∧ Tch (fun q => q = R) w w' := by
  have HR := Lib.hid hR
  clear hR
  go_enter Tryz.func31, Tryz.ntmps31
  go_wp2_with fail
  refine HPA.out.mono ?_
  rintro e w1 ⟨rfl, g1⟩
  have B1 := Lib.hid (HR.out.mono g1)
  have c1 : w1.cell? ⟨R, 15, none⟩ = some (us[15]'(by omega)) := (B1.out.cell 15).trans (List.getElem?_eq_getElem (by omega))
  have f1 := B1.out.free 15
  have TC : Hid (Tch (fun q => q = R) w (w1.setCell ⟨R, 15, none⟩ (.string s))) := (Tch.gr g1).trans (Tch.set ⟨R, 15, none⟩ (.string s) rfl)
  have B2 := Lib.hid (B1.out.set 15 (.string s))
  clear g1
  go_wp2_with fail
  refine (HPT.out _).mono ?_
  rintro e w3 ⟨rfl, g3⟩
  have G3 := Lib.hid g3; clear g3
  go_wp2_with fail
  go_ret
  exact ⟨rfl, B2.out.mono G3.out, TC.out.trans (Tch.gr G3.out)⟩
set_option maxRecDepth 100000 in
theorem rdt_107 (R : Nat) (us : List Value) (h17 : us.length = 17) (l : List UInt8) (pn pf : Int) (w : World) (hl : l.length ≤ 100000) (hR : Blk w R 79 us)
    (HPA : Hid (Calls Tryz.prog 57 #[strc l, .int .i64 1073741824] w fun e w' => e = .returned (.tuple #[.int .i64 pn, .int .i64 pf]) ∧ Gr w w')) :
    Calls Tryz.prog 31 #[.pointer (some ⟨R, 0, none⟩), .int .i32 107, strc l] w fun e w' => e = .returned (.bool (keepB l)) ∧ (keepB l = true → ∃ B q, Blk w' R 79 (us.set 10 (.slice B (keepL l).length q)) ∧ Is w' B (keepL l).length q (keepL l) ∧ ∀ b o, B = some ⟨b, o, none⟩ → 0 < (keepL l).length → R < b) ∧ Tch (fun q => q = R) w w' := by
  have HR := Lib.hid hR
  clear hR
  have HKP := Lib.hid (fun wr (h : Blk wr R 79 us) => keep_any R us h17 l wr hl h)
  obtain ⟨s, hs⟩ : ∃ s, strc l = .string s := ⟨_, rfl⟩
  rw [hs] at HPA HKP ⊢
  clear hs
  go_enter Tryz.func31, Tryz.ntmps31
  go_wp2_with fail
  refine HPA.out.mono ?_
  rintro e w1 ⟨rfl, g1⟩
  have B1 := Lib.hid (HR.out.mono g1)
  have G1 := Lib.hid g1
  clear g1
  go_wp2_with fail
  refine (HKP.out _ B1.out).mono ?_
  rintro e w3 ⟨rfl, k3, t3⟩
  have K3 := Lib.hid k3; have T3 := Lib.hid t3; clear k3 t3
  go_wp2_with fail
  go_ret
  exact ⟨rfl, K3.out, (Tch.gr G1.out).trans T3.out⟩
set_option maxRecDepth 100000 in
theorem rdt_120 (R : Nat) (us : List Value) (h17 : us.length = 17) (s : ByteArray) (r : List UInt8 × Nat × Nat) (pn pf : Int) (w : World) (hR : Blk w R 79 us)
    (HPA : Hid (Calls Tryz.prog 57 #[.string s, .int .i64 1073741824] w fun e w' => e = .returned (.tuple #[.int .i64 pn, .int .i64 pf]) ∧ Gr w w'))
    (HHX : Hid (∀ wr, Calls Tryz.prog 60 #[.string s] wr (RetHex wr r))) :
    Calls Tryz.prog 31 #[.pointer (some ⟨R, 0, none⟩), .int .i32 120, .string s] w fun e w' => e = .returned (.bool (r.2.2 == 0 && decide (0 < r.1.length) && decide (r.1.length ≤ 512))) ∧ (∃ C c, Blk w' R 79 (us.set 16 (.slice C r.1.length c)) ∧ Bs w' C r.1.length c r.1 ∧ ∀ b o, C = some ⟨b, o, none⟩ → 0 < r.1.length → R < b) ∧ Tch (fun q => q = R) w w' := by
  have HR := Lib.hid hR
  clear hR
  obtain ⟨bs, at_, f⟩ := r
  simp only
  go_enter Tryz.func31, Tryz.ntmps31
  go_wp2_with fail
  refine HPA.out.mono ?_
  rintro e w1 ⟨rfl, g1⟩
  have B1 := Lib.hid (HR.out.mono g1)
  have G1 := Lib.hid g1
  clear g1
  go_wp2_with fail
  refine (HHX.out _).mono ?_
  rintro e w3 ⟨v, rfl, o3⟩
  obtain ⟨C, c, rfl, s3⟩ := o3.slice
  have B3 := Lib.hid (B1.out.mono o3.below)
  have c1 : w3.cell? ⟨R, 16, none⟩ = some (us[16]'(by omega)) := (B3.out.cell 16).trans (List.getElem?_eq_getElem (by omega))
  have f1 := B3.out.free 16
  have nC : ∀ b o, C = some ⟨b, o, none⟩ → 0 < bs.length → R < b := fun b o e h0 => by
    have := (World.ownsRow.lt o3.1 b (by rw [e]; rfl)).1
    have := B1.out.lt
    omega
  have B4 := Lib.hid (B3.out.set 16 (.slice C bs.length c))
  have T4 : Hid (Tch (fun q => q = R) w (w3.setCell ⟨R, 16, none⟩ (.slice C bs.length c))) := ((Tch.gr G1.out).trans (Tch.gr o3.below)).trans (Tch.set ⟨R, 16, none⟩ (.slice C bs.length c) rfl)
  have S4 : Hid (Bs (w3.setCell ⟨R, 16, none⟩ (.slice C bs.length c)) C bs.length c bs) := Sl.tch s3 (by decide) (Tch.set (S := fun q => q = R) ⟨R, 16, none⟩ (.slice C bs.length c) rfl) (fun h0 b o e hb => by have := nC b o e h0; have hb : b = R := hb; omega)
  have c2 : (w3.setCell ⟨R, 16, none⟩ (.slice C bs.length c)).cell? ⟨R, 16, none⟩ = some (.slice C bs.length c) := (B4.out.cell 16).trans (by rw [List.getElem?_set_self (by omega)])
  have NC := Lib.hid nC
  clear nC s3 o3
  by_cases hf : f = 0
  · have tf : ((f : Int) == 0) = true := by rw [hf]; rfl
    have HE : Hid ((f == 0) = true) := by show _ = _; rw [hf]; rfl
    clear hf
    by_cases h0 : 0 < bs.length
    · by_cases h5 : bs.length ≤ 512
      · have t5 : Hid (decide ((bs.length : Int) ≤ 512) = true) := decide_eq_true (by omega)
        go_wp2_with fail
        go_ret
        exact ⟨by rw [HE.out, decide_eq_true h0, decide_eq_true h5]; exact congrArg (fun b => Ending.returned (.bool b)) t5.out, ⟨C, c, B4.out, S4.out, NC.out⟩, T4.out⟩
      · have t5 : Hid (decide ((bs.length : Int) ≤ 512) = false) := decide_eq_false (by omega)
        go_wp2_with fail
        go_ret
        exact ⟨by rw [HE.out, decide_eq_true h0, decide_eq_false h5]; exact congrArg (fun b => Ending.returned (.bool b)) t5.out, ⟨C, c, B4.out, S4.out, NC.out⟩, T4.out⟩
    · go_wp2_with fail
      go_ret
      exact ⟨by rw [HE.out, decide_eq_false h0]; rfl, ⟨C, c, B4.out, S4.out, NC.out⟩, T4.out⟩
  · have tf : ((f : Int) == 0) = false := beq_eq_false_iff_ne.2 (by omega)
    have HE : Hid ((f == 0) = false) := beq_eq_false_iff_ne.2 hf
    clear hf
    go_wp2_with fail
    go_ret
    exact ⟨by rw [HE.out]; rfl, ⟨C, c, B4.out, S4.out, NC.out⟩, T4.out⟩
/-! ### all signs -/
def SignT (s : Nat) : Prop := s = 110 ∨ s = 116 ∨ s = 97 ∨ s = 101 ∨ s = 107 ∨ s = 103 ∨ s = 105 ∨ s = 120
/-- The reader's line, in its block. -/
def RsT (w : World) (R : Nat) (d : LnD) : Prop := ∃ B q C s, Blk w R 79 (LnV.cells ⟨d, none, 0, B, q, C, s⟩) ∧ d.o.x = [] ∧ Is w B d.p.length q d.p ∧ Bs w C d.b.length s d.b ∧ (∀ b o, B = some ⟨b, o, none⟩ → 0 < d.p.length → R < b) ∧ (∀ b o, C = some ⟨b, o, none⟩ → 0 < d.b.length → R < b)
theorem RsT.tch {w : World} {R I : Nat} {d : LnD} {s : ByteArray} {k k' : Nat} (h : RsT w R d) (hit : w.heap[I]? = some (.stringIter s k)) (hRI : R ≠ I) : RsT (w.iterAt I s k') R d := by
  obtain ⟨B, q, C, c, hR, hx, hp, hb, nB, nC⟩ := h
  have off : ∀ {A : Option Addr} {n c : Nat} {xs : List Value}, Sl w A n c 1 xs → 0 < n → ∀ b o, A = some ⟨b, o, none⟩ → b ≠ I := by
    intro A n c xs hs h0 b o e hb
    obtain ⟨h1, _, _, h4⟩ := hs
    obtain ⟨b', o', e', hc⟩ := h4 h0
    rw [e] at e'
    injection e' with e'
    injection e' with e1 e2
    subst e1 e2
    have hl : 0 < xs.length := by omega
    have := hc 0 _ (List.getElem?_eq_getElem hl)
    rw [hb] at this
    exact iter_not_cell hit this
  have T : Tch (fun q => q = I) w (w.iterAt I s k') := Tch.iterAt w I s k'
  exact ⟨B, q, C, c, hR.tch T hRI, hx, Sl.tch hp (by decide) T (fun h0 b o e => off hp h0 b o e), Sl.tch hb (by decide) T (fun h0 b o e => off hb h0 b o e), nB, nC⟩
theorem readT_any (d : LnD) (R s : Nat) (l : List UInt8) (w : World) (h : RsT w R d) (hl : l.length ≤ 100000) (hs : SignT s) :
    Calls Tryz.prog 31 #[.pointer (some ⟨R, 0, none⟩), .int .i32 (s : Int), strc l] w fun e w' => e = .returned (.bool (okT s l)) ∧ (okT s l = true → RsT w' R (readT d s l)) ∧ Tch (fun q => q = R) w w' := by
  obtain ⟨B, q, C, c, hR, hx, hp, hb, nB, nC⟩ := h
  have HPA : Hid (Calls Tryz.prog 57 #[strc l, .int .i64 1073741824] w fun e w' => e = .returned (.tuple #[.int .i64 (parseN l 1073741824), .int .i64 (parseF l 1073741824)]) ∧ Gr w w') := parse_any ⟨l.toArray⟩ l 1073741824 w rfl (by rw [size_of']; exact hl)
  have keepP : ∀ w', Tch (fun q => q = R) w w' → Is w' B d.p.length q d.p := fun w' t => Sl.tch hp (by decide) t (fun h0 b o e hq => by have := nB b o e h0; have hq : b = R := hq; omega)
  have keepBy : ∀ w', Tch (fun q => q = R) w w' → Bs w' C d.b.length c d.b := fun w' t => Sl.tch hb (by decide) t (fun h0 b o e hq => by have := nC b o e h0; have hq : b = R := hq; omega)
  rcases hs with rfl | rfl | rfl | rfl | rfl | rfl | rfl | rfl
  · refine (rdt_110 R _ rfl ⟨l.toArray⟩ _ _ w hR HPA).mono ?_
    rintro e w' ⟨rfl, b, t⟩
    exact ⟨rfl, fun _ => ⟨B, q, C, c, b, hx, keepP w' t, keepBy w' t, nB, nC⟩, t⟩
  · refine (rdt_116 R _ rfl ⟨l.toArray⟩ _ _ w hR HPA).mono ?_
    rintro e w' ⟨rfl, b, t⟩
    exact ⟨rfl, fun _ => ⟨B, q, C, c, b, hx, keepP w' t, keepBy w' t, nB, nC⟩, t⟩
  · refine (rdt_97 R _ rfl ⟨l.toArray⟩ _ _ w hR HPA).mono ?_
    rintro e w' ⟨rfl, b, t⟩
    exact ⟨rfl, fun _ => ⟨B, q, C, c, b, hx, keepP w' t, keepBy w' t, nB, nC⟩, t⟩
  · refine (rdt_101 R _ rfl ⟨l.toArray⟩ _ _ w hR HPA).mono ?_
    rintro e w' ⟨rfl, b, t⟩
    exact ⟨rfl, fun _ => ⟨B, q, C, c, b, hx, keepP w' t, keepBy w' t, nB, nC⟩, t⟩
  · refine (rdt_107 R _ rfl l _ _ w hl hR HPA).mono ?_
    rintro e w' ⟨rfl, k, t⟩
    refine ⟨rfl, fun h => ?_, t⟩
    obtain ⟨B', q', b, i, n⟩ := k h
    exact ⟨B', q', C, c, b, hx, i, keepBy w' t, n, nC⟩
  · refine (rdt_103 R _ rfl ⟨l.toArray⟩ _ _ _ w hR HPA (Lib.hid fun wr => part_any l wr (by omega))).mono ?_
    rintro e w' ⟨rfl, b, t⟩
    exact ⟨rfl, fun _ => ⟨B, q, C, c, b, hx, keepP w' t, keepBy w' t, nB, nC⟩, t⟩
  · refine (rdt_105 R _ rfl ⟨l.toArray⟩ _ _ _ w hR HPA (Lib.hid fun wr => part_any l wr (by omega))).mono ?_
    rintro e w' ⟨rfl, b, t⟩
    exact ⟨rfl, fun _ => ⟨B, q, C, c, b, hx, keepP w' t, keepBy w' t, nB, nC⟩, t⟩
  · refine (rdt_120 R _ rfl ⟨l.toArray⟩ (hexR l) _ _ w hR HPA (Lib.hid fun wr => hexParse_any l wr hl)).mono ?_
    rintro e w' ⟨rfl, ⟨C', c', b, i, n⟩, t⟩
    exact ⟨rfl, fun _ => ⟨B, q, C', c', b, hx, keepP w' t, i, nB, n⟩, t⟩
end Go.Proofs.YtadenlhnfkccaaaGreatDoor
