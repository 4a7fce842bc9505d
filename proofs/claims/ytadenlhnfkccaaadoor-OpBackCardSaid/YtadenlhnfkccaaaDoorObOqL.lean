/- Operations as lines, in plain Lean: answers told and read, and the ways back. No condition. -/
import Derived.Test.YtadenlhnfkccaaaDoorObOqAB
namespace Go.Proofs.YtadenlhnfkccaaaDoor
open Go.RowKit
set_option linter.unusedVariables false
set_option linter.unusedSimpArgs false
/-- What an answer has. -/
structure AnD where
  f : Int
  b : List UInt8
  n : List Int
  t : List UInt8
def tellW (a : AnD) : List (List UInt8) := wordT a.f :: a.n.map countT
def tellA (a : AnD) : List (List UInt8) := tellW a ++ (if a.b = [] then [] else [35 :: hexP a.b]) ++ (if a.t = [] then [] else [61 :: a.t])
def tellL (a : AnD) : List UInt8 := if a.f ≠ 0 then wordT a.f else if ([] ∈ tellW a) ∨ (a.t ≠ [] ∧ partT a.t = []) then [] else Lib.join (tellA a) [32]
def anC (a : AnD) (A : Option Addr) (m c : Nat) (B : Option Addr) (p q : Nat) : Array Value := #[.int .i64 a.f, .slice A m c, .slice B p q, strc a.t]
/-- Which fault a word tells; 0: none. -/
def faultN (w : List UInt8) : Nat := ((List.range 15).find? fun k => wordL k == w).getD 15
def faultT (w : List UInt8) : Int := if faultN w = 15 then 0 else (faultN w : Int)
def noAn : AnD := ⟨0, [], [], []⟩
def trimE : List UInt8 → List UInt8
  | 61 :: t => t
  | x => x
/-- A word is read into an answer. -/
def eatA (a : AnD) (x : List UInt8) : AnD :=
  if parseF x 1073741824 = 0 then { a with n := a.n ++ [parseN x 1073741824] }
  else if x.head? = some 35 then { a with b := (hexR x.tail).1 }
  else { a with t := trimE x }
def gotA (l : List UInt8) : AnD := (cutL 32 l).tail.foldl eatA ⟨faultT ((cutL 32 l).headD []), [], [], []⟩
def readA (l : List UInt8) : AnD × Nat := if l ≠ [] ∧ tellL (gotA l) = l then (gotA l, 0) else (noAn, 3)
/-! ### cutting and joining -/
theorem cut_app (c : UInt8) : ∀ (p l : List UInt8), (∀ b ∈ p, b ≠ c) → cutL c (p ++ c :: l) = p :: cutL c l
  | [], l, _ => by
    show (if c = c then [] :: cutL c l else consC c (cutL c l)) = _
    rw [if_pos rfl]
  | b :: p, l, h => by
    show (if b = c then [] :: cutL c (p ++ c :: l) else consC b (cutL c (p ++ c :: l))) = _
    rw [if_neg (h b List.mem_cons_self), cut_app c p l (fun x hx => h x (List.mem_cons_of_mem _ hx))]
    rfl
theorem cut_join (c : UInt8) : ∀ (r : List (List UInt8)) (p : List UInt8), (∀ q ∈ p :: r, ∀ b ∈ q, b ≠ c) → cutL c (Lib.join (p :: r) [c]) = p :: r
  | [], p, h => by
    rw [Lib.join_one]
    exact cut_none c p (h p List.mem_cons_self)
  | q :: r, p, h => by
    have e : Lib.join (p :: q :: r) [c] = p ++ c :: Lib.join (q :: r) [c] := by
      rw [Lib.join_cons, Lib.join_cons]
      simp [Lib.joinTail]
    rw [e, cut_app c p _ (h p List.mem_cons_self), cut_join c r q (fun x hx => h x (List.mem_cons_of_mem _ hx))]
theorem join_consC (c b : UInt8) : ∀ (ps : List (List UInt8)), ps ≠ [] → Lib.join (consC b ps) [c] = b :: Lib.join ps [c]
  | [], h => absurd rfl h
  | p :: ps, _ => by
    show Lib.join ((b :: p) :: ps) [c] = _
    rw [Lib.join_cons, Lib.join_cons]
    rfl
theorem join_cut (c : UInt8) : ∀ l : List UInt8, Lib.join (cutL c l) [c] = l
  | [] => by show Lib.join [[]] [c] = []; rw [Lib.join_one]
  | b :: t => by
    show Lib.join (if b = c then [] :: cutL c t else consC b (cutL c t)) [c] = b :: t
    by_cases hb : b = c
    · rw [if_pos hb]
      subst hb
      have ih := join_cut b t
      cases hp : cutL b t with
      | nil => exact absurd hp (cut_ne b t)
      | cons p ps =>
        rw [hp] at ih
        rw [Lib.join_cons] at ih ⊢
        have e : Lib.joinTail [b] (p :: ps) = [b] ++ p ++ Lib.joinTail [b] ps := by simp [Lib.joinTail]
        rw [e, ← ih]
        simp
    · rw [if_neg hb, join_consC c b _ (cut_ne c t), join_cut c t]
/-! ### digits back -/
theorem val_one (c : UInt8) : valL [c] = c.toNat - 48 := by simp [valL]
theorem isDig_ge {c : UInt8} (h : isDig c = true) : 48 ≤ c.toNat ∧ c.toNat ≤ 57 := by
  unfold isDig at h
  simp at h
  omega
theorem dec_val : ∀ (n : Nat) (l : List UInt8), l.length = n + 1 → l.all isDig = true → (n = 0 ∨ bAt l 0 ≠ 48) → Lib.decDigits (valL l) = l ∧ (bAt l 0 ≠ 48 → 1 ≤ valL l)
  | 0, l, hl, ha, _ => by
    match l, hl with
    | [c], _ =>
      have hc := isDig_ge (by simpa using ha : isDig c = true)
      rw [val_one, dec_small _ (by omega)]
      refine ⟨?_, fun h => ?_⟩
      · congr 1
        apply UInt8.toNat_inj.1
        rw [dig_nat _ (by omega)]
        omega
      · have : bAt [c] 0 = (c.toNat : Int) := rfl
        omega
  | n + 1, l, hl, ha, h0 => by
    obtain ⟨l', c, rfl⟩ : ∃ l' c, l = l' ++ [c] := by
      rcases List.eq_nil_or_concat l with h | ⟨l', c, h⟩
      · rw [h] at hl; simp at hl
      · exact ⟨l', c, by simpa using h⟩
    have hl' : l'.length = n + 1 := by simpa using hl
    rw [List.all_append] at ha
    simp only [Bool.and_eq_true] at ha
    have hc := isDig_ge (by simpa using ha.2 : isDig c = true)
    have hb : bAt (l' ++ [c]) 0 = bAt l' 0 := by
      unfold bAt
      rw [List.getD_eq_getElem?_getD, List.getD_eq_getElem?_getD, List.getElem?_append_left (by omega)]
    have h1 : bAt l' 0 ≠ 48 := by
      rcases h0 with h | h
      · omega
      · rw [hb] at h; exact h
    obtain ⟨i1, i2⟩ := dec_val n l' hl' ha.1 (.inr h1)
    have i3 := i2 h1
    rw [valL_snoc, dec_big _ (by omega)]
    refine ⟨?_, fun _ => by omega⟩
    have e1 : (valL l' * 10 + (c.toNat - 48)) / 10 = valL l' := by omega
    have e2 : (valL l' * 10 + (c.toNat - 48)) % 10 = c.toNat - 48 := by omega
    rw [e1, e2, i1, dec_small _ (by omega)]
    congr 2
    apply UInt8.toNat_inj.1
    rw [dig_nat _ (by omega)]
    omega
/-- What is read is printed as it was. -/
theorem print_parse {l : List UInt8} {m : Int} (h : parseF l m = 0) : badL l = false ∧ (valL l : Int) ≤ m ∧ parseN l m = (valL l : Int) ∧ printL (valL l : Int) = l := by
  unfold parseF at h
  unfold parseN
  cases hb : badL l with
  | true => rw [hb] at h; simp at h
  | false =>
    rw [hb] at h
    simp only [Bool.false_eq_true, if_false] at h ⊢
    by_cases hm : m < (valL l : Int)
    · rw [if_pos hm] at h; omega
    · rw [if_neg hm]
      refine ⟨trivial, by omega, rfl, ?_⟩
      unfold badL at hb
      simp only [Bool.not_eq_false', Bool.and_eq_true, Bool.or_eq_true, decide_eq_true_eq, bne_iff_ne] at hb
      obtain ⟨⟨⟨h1, h2⟩, h3⟩, h4⟩ := hb
      obtain ⟨n, hn⟩ : ∃ n, l.length = n + 1 := ⟨l.length - 1, by omega⟩
      unfold printL
      rw [if_neg (by omega)]
      exact (dec_val n l hn h4 (by
        rcases h3 with h | h
        · left; omega
        · right; exact h)).1
theorem count_parse {l : List UInt8} (h : parseF l 1073741824 = 0) : countT (parseN l 1073741824) = l := by
  obtain ⟨_, h2, h3, h4⟩ := print_parse h
  unfold countT
  rw [h3, if_neg (by omega), h4]
theorem parse_count {n : Int} (h : countT n ≠ []) : parseF (countT n) 1073741824 = 0 ∧ parseN (countT n) 1073741824 = n ∧ (∀ b ∈ countT n, b ≠ 32) := by
  unfold countT at *
  by_cases h1 : 1073741824 < n
  · rw [if_pos h1] at h; exact absurd rfl h
  rw [if_neg h1] at h ⊢
  by_cases h0 : n < 0
  · unfold printL at h; rw [if_pos h0] at h; exact absurd rfl h
  obtain ⟨u, rfl⟩ := Int.eq_ofNat_of_zero_le (by omega : 0 ≤ n)
  have e : printL (u : Int) = Lib.decDigits u := by unfold printL; rw [if_neg (by omega)]; rfl
  have hp := (parse_print (u : Int) (by omega) (by omega)).2
  have hv := (dec_back u).1
  have hd := (dec_back u).2.1
  rw [e] at hp ⊢
  have hbad : badL (Lib.decDigits u) = false := by
    cases hb : badL (Lib.decDigits u) with
    | false => rfl
    | true => unfold parseF at hp; rw [hb] at hp; simp at hp
  unfold parseF parseN
  rw [hbad, hv]
  refine ⟨by simp; omega, by simp; omega, fun b hb e => ?_⟩
  subst e
  have := List.all_eq_true.1 hd _ hb
  revert this
  decide
/-! ### hex back -/
theorem hexPV (b : UInt8) : UInt8.ofNat (hexV (hexD (b.toNat / 16)) * 16 + hexV (hexD (b.toNat % 16))) = b := by
  have := b.toNat_lt
  rw [hexV_hexD (by omega), hexV_hexD (by omega)]
  apply UInt8.toNat_inj.1
  rw [UInt8.toNat_ofNat_of_lt' (by show _ < 256; omega)]
  omega
theorem hexP_cons (b : UInt8) (t : List UInt8) : hexP (b :: t) = hexD (b.toNat / 16) :: hexD (b.toNat % 16) :: hexP t := rfl
theorem hexG_P : ∀ l, hexG (hexP l) = l
  | [] => rfl
  | b :: t => by
    rw [hexP_cons]
    show UInt8.ofNat _ :: hexG (hexP t) = _
    rw [hexPV, hexG_P t]
theorem hexOk_P : ∀ l, hexOk (hexP l) = true
  | [] => rfl
  | b :: t => by
    have := b.toNat_lt
    have ih := hexOk_P t
    rw [hexP_cons]
    unfold hexOk at ih ⊢
    rw [List.all_cons, List.all_cons, ih, hexV_hexD (by omega), hexV_hexD (by omega), decide_eq_true (by omega), decide_eq_true (by omega)]
    rfl
theorem hexR_P (l : List UInt8) : (hexR (hexP l)).1 = l := by
  unfold hexR
  rw [if_neg (by rw [hexOk_P]; decide), if_neg (by rw [hexP_len]; omega)]
  exact hexG_P l
theorem hexP_noblank (l : List UInt8) : ∀ b ∈ hexP l, b ≠ 32 := by
  intro b hb e
  subst e
  have := hexOk_P l
  unfold hexOk at this
  have := List.all_eq_true.1 this _ hb
  revert this
  decide
/-! ### parts -/
theorem runes_noblank : ∀ l : List UInt8, runesN l ≠ none → ∀ b ∈ l, b ≠ 32
  | [], _, b, hb => by simp at hb
  | [x], h, b, hb => by
    simp only [List.mem_singleton] at hb
    subst hb
    rintro rfl
    exact h (by decide)
  | x :: y :: l, h, b, hb => by
    rw [runesN] at h
    by_cases hx : smallA x = true
    · rw [if_pos hx] at h
      rcases List.mem_cons.1 hb with rfl | hb
      · rintro rfl; revert hx; decide
      · exact runes_noblank (y :: l) (fun e => h (by rw [e]; rfl)) b hb
    · rw [if_neg hx] at h
      by_cases hc : x = 195 ∧ smallC y = true
      · rw [if_pos hc] at h
        rcases List.mem_cons.1 hb with rfl | hb
        · rw [hc.1]; decide
        · rcases List.mem_cons.1 hb with rfl | hb
          · rintro rfl; have := hc.2; revert this; decide
          · exact runes_noblank l (fun e => h (by rw [e]; rfl)) b hb
      · rw [if_neg hc] at h; exact absurd rfl h
theorem part_noblank {l : List UInt8} (h : partT l ≠ []) : ∀ b ∈ l, b ≠ 32 := by
  unfold partT at h
  by_cases hp : partL l = true
  · refine runes_noblank l fun e => ?_
    unfold partL at hp
    rw [e] at hp
    cases hp
  · rw [if_neg hp] at h; exact absurd rfl h
/-! ### answers back -/
theorem wordL_out {k : Nat} (h : 15 ≤ k) : wordL k = [] := by
  obtain ⟨j, rfl⟩ : ∃ j, k = j + 15 := ⟨k - 15, by omega⟩
  rfl
theorem word_cases (k : Nat) (h : k < 15) : faultN (wordL k) = k ∧ (∀ b ∈ wordL k, b ≠ 32) ∧ wordL k ≠ [] := by
  rcases show k = 0 ∨ k = 1 ∨ k = 2 ∨ k = 3 ∨ k = 4 ∨ k = 5 ∨ k = 6 ∨ k = 7 ∨ k = 8 ∨ k = 9 ∨ k = 10 ∨ k = 11 ∨ k = 12 ∨ k = 13 ∨ k = 14 by omega with rfl | rfl | rfl | rfl | rfl | rfl | rfl | rfl | rfl | rfl | rfl | rfl | rfl | rfl | rfl <;> decide +kernel
theorem wordT_of {f : Int} (h : wordT f ≠ []) : ∃ k : Nat, f = k ∧ k < 15 ∧ wordT f = wordL k := by
  unfold wordT at *
  by_cases h0 : f < 0
  · rw [if_pos h0] at h; exact absurd rfl h
  · rw [if_neg h0] at h ⊢
    refine ⟨f.toNat, by omega, ?_, rfl⟩
    rcases Nat.lt_or_ge f.toNat 15 with h1 | h1
    · exact h1
    · exact absurd (wordL_out h1) h
theorem faultT_word {k : Nat} (h : k < 15) : faultT (wordL k) = k := by
  unfold faultT
  rw [(word_cases k h).1, if_neg (by omega)]
theorem not_digit {c : UInt8} {t : List UInt8} (h : isDig c = false) : parseF (c :: t) 1073741824 ≠ 0 := by
  unfold parseF
  rw [bad_of (c :: t) (.inr (.inr (.inr (by rw [List.all_cons, h]; rfl)))), if_pos rfl]
  omega
theorem eat_count {a : AnD} {n : Int} (h : countT n ≠ []) : eatA a (countT n) = { a with n := a.n ++ [n] } := by
  obtain ⟨h1, h2, _⟩ := parse_count h
  unfold eatA
  rw [if_pos h1, h2]
theorem eat_counts : ∀ (l : List Int) (a : AnD), (∀ n ∈ l, countT n ≠ []) → (l.map countT).foldl eatA a = { a with n := a.n ++ l }
  | [], a, _ => by simp
  | n :: l, a, h => by
    rw [List.map_cons, List.foldl_cons, eat_count (h n List.mem_cons_self), eat_counts l _ (fun x hx => h x (List.mem_cons_of_mem _ hx))]
    simp
theorem eat_bytes (a : AnD) (b : List UInt8) : eatA a (35 :: hexP b) = { a with b := b } := by
  unfold eatA
  rw [if_neg (not_digit (by decide)), if_pos (show (35 :: hexP b).head? = some 35 from rfl)]
  show { a with b := (hexR (hexP b)).1 } = _
  rw [hexR_P]
theorem eat_text (a : AnD) (t : List UInt8) : eatA a (61 :: t) = { a with t := t } := by
  unfold eatA
  rw [if_neg (not_digit (by decide)), if_neg (fun h : (61 :: t).head? = some 35 => by rw [List.head?_cons] at h; injection h with h; revert h; decide)]
  rfl
/-- What is told is read as it was. -/
theorem tell_read (a : AnD) (h : tellL a ≠ []) : (readA (tellL a)).2 = 0 ∧ (readA (tellL a)).1.f = a.f ∧ (a.f = 0 → (readA (tellL a)).1 = a) := by
  have key : gotA (tellL a) = (if a.f = 0 then a else ⟨a.f, [], [], []⟩) → (readA (tellL a)).2 = 0 ∧ (readA (tellL a)).1.f = a.f ∧ (a.f = 0 → (readA (tellL a)).1 = a) := by
    intro hg
    have ht : tellL (gotA (tellL a)) = tellL a := by
      rw [hg]
      by_cases hf : a.f = 0
      · rw [if_pos hf]
      · rw [if_neg hf]
        unfold tellL
        rw [if_pos hf]
        rw [if_pos hf]
    unfold readA
    rw [if_pos ⟨h, ht⟩, hg]
    by_cases hf : a.f = 0
    · rw [if_pos hf]; exact ⟨rfl, rfl, fun _ => rfl⟩
    · rw [if_neg hf]; exact ⟨rfl, rfl, fun e => absurd e hf⟩
  apply key
  by_cases hf : a.f = 0
  · rw [if_pos hf]
    unfold tellL at h ⊢
    rw [if_neg (by simp [hf])] at h ⊢
    by_cases hx : ([] ∈ tellW a) ∨ (a.t ≠ [] ∧ partT a.t = [])
    · rw [if_pos hx] at h; exact absurd rfl h
    rw [if_neg hx]
    have hn : ∀ n ∈ a.n, countT n ≠ [] := fun n hn e => hx (.inl (List.mem_cons_of_mem _ (by rw [← e]; exact List.mem_map_of_mem hn)))
    have ht : a.t ≠ [] → partT a.t ≠ [] := fun h1 h2 => hx (.inr ⟨h1, h2⟩)
    have hw : wordT a.f = wordL 0 := by rw [hf]; rfl
    have e1 : tellA a = wordL 0 :: (a.n.map countT ++ (if a.b = [] then [] else [35 :: hexP a.b]) ++ (if a.t = [] then [] else [61 :: a.t])) := by
      unfold tellA tellW
      rw [hw]
      simp
    have hcut : cutL 32 (Lib.join (tellA a) [32]) = tellA a := by
      rw [e1]
      refine cut_join 32 _ _ fun q hq b hb => ?_
      rcases List.mem_cons.1 hq with rfl | hq
      · exact (word_cases 0 (by decide)).2.1 b hb
      · rcases List.mem_append.1 hq with hq | hq
        · rcases List.mem_append.1 hq with hq | hq
          · obtain ⟨n, h1, rfl⟩ := List.mem_map.1 hq
            exact (parse_count (hn n h1)).2.2 b hb
          · by_cases hb0 : a.b = []
            · rw [if_pos hb0] at hq; simp at hq
            · rw [if_neg hb0] at hq
              simp only [List.mem_singleton] at hq
              subst hq
              rcases List.mem_cons.1 hb with rfl | hb
              · decide
              · exact hexP_noblank _ b hb
        · by_cases ht0 : a.t = []
          · rw [if_pos ht0] at hq; simp at hq
          · rw [if_neg ht0] at hq
            simp only [List.mem_singleton] at hq
            subst hq
            rcases List.mem_cons.1 hb with rfl | hb
            · decide
            · exact part_noblank (ht ht0) b hb
    unfold gotA
    rw [hcut, e1]
    show List.foldl eatA ⟨faultT (wordL 0), [], [], []⟩ _ = a
    rw [faultT_word (by decide), List.tail_cons, List.foldl_append, List.foldl_append, eat_counts _ _ hn]
    obtain ⟨af, ab, an, at'⟩ := a
    have hf : af = 0 := hf
    subst hf
    by_cases hb0 : ab = []
    · subst hb0
      by_cases ht0 : at' = []
      · subst ht0; simp
      · simp only [if_neg ht0, List.foldl_cons, List.foldl_nil, if_true]
        rw [eat_text]
        simp
    · simp only [if_neg hb0, List.foldl_cons, List.foldl_nil]
      rw [eat_bytes]
      by_cases ht0 : at' = []
      · subst ht0; simp
      · simp only [if_neg ht0, List.foldl_cons, List.foldl_nil]
        rw [eat_text]
        simp
  · rw [if_neg hf]
    unfold tellL at h ⊢
    rw [if_pos hf] at h ⊢
    obtain ⟨k, h1, h2, h3⟩ := wordT_of h
    rw [h3, h1]
    unfold gotA
    rw [cut_none 32 _ (word_cases k h2).2.1]
    show (⟨faultT (wordL k), [], [], []⟩ : AnD) = _
    rw [faultT_word h2]
/-- What is read is told as it was. -/
theorem read_tell {l : List UInt8} (h : (readA l).2 = 0) : tellL (readA l).1 = l := by
  unfold readA at *
  by_cases hx : l ≠ [] ∧ tellL (gotA l) = l
  · rw [if_pos hx]; exact hx.2
  · rw [if_neg hx] at h; simp at h
/-! ### operations back -/
theorem field_other {d : Int} {o : OpD} {s s' : Nat} {w : List UInt8} (h : s ≠ s') : fieldL (readD d o s w) s' = fieldL o s' := by
  unfold readD
  by_cases h1 : s = 103
  · rw [if_pos h1]; subst h1; unfold fieldL; rw [if_neg (Ne.symm h), if_neg (Ne.symm h)]
  rw [if_neg h1]
  by_cases h2 : s = 105
  · rw [if_pos h2]; subst h2; unfold fieldL; simp only [if_neg (Ne.symm h)]
  rw [if_neg h2]
  by_cases h3 : s = 101
  · rw [if_pos h3]; subst h3; unfold fieldL; simp only [if_neg (Ne.symm h)]
  rw [if_neg h3]
  by_cases h4 : s = 115
  · rw [if_pos h4]; subst h4; unfold fieldL; simp only [if_neg (Ne.symm h)]
  rw [if_neg h4]
  by_cases h5 : s = 110
  · rw [if_pos h5]; subst h5; unfold fieldL; simp only [if_neg (Ne.symm h)]
  rw [if_neg h5]
  by_cases h6 : s = 118
  · rw [if_pos h6]; subst h6; unfold fieldL; simp only [if_neg (Ne.symm h)]
  rw [if_neg h6]
  by_cases h7 : s = 120
  · rw [if_pos h7]; subst h7; unfold fieldL; simp only [if_neg (Ne.symm h)]
  rw [if_neg h7]
theorem field_read {d : Int} {o : OpD} {s : Nat} {w : List UInt8} (h : readB (readD d o s w) s w = true) : fieldL (readD d o s w) s = w := by
  unfold readB at h
  by_cases hn : numS s = true
  · rw [if_pos hn] at h
    have hp : parseF w 1073741824 = 0 := by simpa using h
    have hc := count_parse hp
    unfold numS at hn
    simp only [Bool.or_eq_true, beq_iff_eq] at hn
    rcases hn with (rfl | rfl) | rfl
    · exact hc
    · exact hc
    · exact hc
  · rw [if_neg hn] at h
    simp only [Bool.and_eq_true] at h
    simpa using h.2
theorem readD_k {d : Int} {o : OpD} {s : Nat} {w : List UInt8} : (readD d o s w).k = o.k := by
  unfold readD
  split
  · rfl
  · split
    · rfl
    · split
      · rfl
      · split
        · rfl
        · split
          · rfl
          · split
            · rfl
            · split <;> rfl
theorem foldP_keep : ∀ (ss : List UInt8) (ws : List (List UInt8)) (o o' : OpD), foldP o ss ws = some o' → o'.k = o.k ∧ ∀ s : Nat, (∀ x ∈ ss, x.toNat ≠ s) → fieldL o' s = fieldL o s
  | [], ws, o, o', h => by
    have h : some o = some o' := h
    cases h
    exact ⟨rfl, fun _ _ => rfl⟩
  | _ :: _, [], o, o', h => by cases h
  | s :: ss, w :: ws, o, o', h => by
    have h : (if readB (readD 0 o s.toNat w) s.toNat w = true then foldP (readD 0 o s.toNat w) ss ws else none) = some o' := h
    split at h
    · obtain ⟨h1, h2⟩ := foldP_keep ss ws _ _ h
      refine ⟨h1.trans readD_k, fun x hx => ?_⟩
      rw [h2 x (fun y hy => hx y (List.mem_cons_of_mem _ hy)), field_other (hx s List.mem_cons_self)]
    · cases h
theorem foldP_back : ∀ (ss : List UInt8) (ws : List (List UInt8)) (o o' : OpD), foldP o ss ws = some o' → ss.length = ws.length → ss.Nodup → (ss.map fun s => fieldL o' s.toNat) = ws
  | [], ws, o, o', _, hl, _ => by
    cases ws with
    | nil => rfl
    | cons w ws => simp at hl
  | _ :: _, [], o, o', h, _, _ => by cases h
  | s :: ss, w :: ws, o, o', h, hl, hd => by
    have h : (if readB (readD 0 o s.toNat w) s.toNat w = true then foldP (readD 0 o s.toNat w) ss ws else none) = some o' := h
    rw [List.nodup_cons] at hd
    split at h
    · next hb =>
      rw [List.map_cons, foldP_back ss ws _ _ h (by simpa using hl) hd.2]
      have h2 := (foldP_keep ss ws _ _ h).2 s.toNat (fun x hx e => hd.1 (by rw [UInt8.toNat_inj.1 e] at hx; exact hx))
      rw [h2, field_read hb]
    · cases h
theorem forms_nodup (k : Nat) (h : k < 10) : (formS k).Nodup := by
  rcases show k = 0 ∨ k = 1 ∨ k = 2 ∨ k = 3 ∨ k = 4 ∨ k = 5 ∨ k = 6 ∨ k = 7 ∨ k = 8 ∨ k = 9 by omega with rfl | rfl | rfl | rfl | rfl | rfl | rfl | rfl | rfl | rfl <;> decide
theorem sameO_self (o : OpD) : sameO o o = true := by unfold sameO; simp
/-- What is read has just that line. -/
theorem parse_back {l : List UInt8} (h : (parseO l).2 = 0) : printO (parseO l).1 = (l, 0) := by
  obtain ⟨o, ho⟩ : ∃ o, opOf l = some o := by
    cases hp : opOf l with
    | some o => exact ⟨o, rfl⟩
    | none => unfold parseO at h; rw [hp] at h; cases h
  have hpo : parseO l = (o, 0) := by unfold parseO; rw [ho]
  have ho2 := ho
  unfold opOf at ho2
  simp only [] at ho2
  obtain ⟨k, hk⟩ : ∃ k, k = kindL ((cutL 32 l).headD []) := ⟨_, rfl⟩
  rw [← hk] at ho2
  by_cases hk10 : k < 10
  · rw [if_pos hk10] at ho2
    have hfind : (formW k == (cutL 32 l).headD [] && !(formW k == [])) = true := by
      unfold kindL at hk
      cases hf : (List.range 10).find? fun k => formW k == (cutL 32 l).headD [] && !(formW k == []) with
      | none => rw [hf] at hk; simp at hk; omega
      | some j =>
        rw [hf] at hk
        simp at hk
        subst hk
        have hs := List.find?_some (p := fun k => formW k == (cutL 32 l).headD [] && !(formW k == [])) hf
        exact hs
    simp only [Bool.and_eq_true, beq_iff_eq, Bool.not_eq_true', beq_eq_false_iff_ne] at hfind
    obtain ⟨hw, hne⟩ := hfind
    have hk1 : 1 ≤ k := by
      rcases Nat.eq_zero_or_pos k with h | h
      · subst h; exact absurd rfl hne
      · exact h
    unfold tryL at ho2
    by_cases hlen : (cutL 32 l).length = 1 + (formS k).length
    · rw [if_pos hlen] at ho2
      have hb := foldP_back _ _ _ _ ho2 (by rw [List.length_tail]; omega) (forms_nodup k hk10)
      have hkk : o.k = (k : Int) := (foldP_keep _ _ _ _ ho2).1
      have hline : lineL o = l := by
        unfold lineL
        rw [if_pos (by omega), hkk]
        show Lib.join (formW k :: (formS k).map fun s => fieldL o s.toNat) [32] = l
        rw [hb, hw]
        have := join_cut 32 l
        cases hc : cutL 32 l with
        | nil => exact absurd hc (cut_ne 32 l)
        | cons p ps => rw [hc] at this; exact this
      rw [hpo]
      show printO o = (l, 0)
      unfold printO
      rw [hline, hpo, if_pos ⟨by omega, rfl, sameO_self o⟩]
    · rw [if_neg hlen] at ho2; cases ho2
  · rw [if_neg hk10] at ho2; cases ho2
theorem sameO_symm {a b : OpD} (h : sameO a b = true) : sameO b a = true := by
  unfold sameO at *
  simp only [Bool.and_eq_true, beq_iff_eq] at h ⊢
  obtain ⟨⟨⟨⟨⟨⟨⟨h1, h2⟩, h3⟩, h4⟩, h5⟩, h6⟩, h7⟩, h8⟩ := h
  exact ⟨⟨⟨⟨⟨⟨⟨h1.symm, h2.symm⟩, h3.symm⟩, h4.symm⟩, h5.symm⟩, h6.symm⟩, h7.symm⟩, h8.symm⟩
/-- What is printed is read as it was. -/
theorem print_back {o : OpD} (h : (printO o).2 = 0) : (parseO (printO o).1).2 = 0 ∧ sameO (parseO (printO o).1).1 o = true := by
  unfold printO at *
  by_cases hx : (1 ≤ o.k ∧ o.k < 10) ∧ (parseO (lineL o)).2 = 0 ∧ sameO o (parseO (lineL o)).1 = true
  · rw [if_pos hx]; exact ⟨hx.2.1, sameO_symm hx.2.2⟩
  · rw [if_neg hx] at h; simp at h
end Go.Proofs.YtadenlhnfkccaaaDoor
