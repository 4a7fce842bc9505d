/- Own texts of this claim, one behind the other. No condition. -/
import Derived.Test.YtcfbbgbjlgonpaaGreatDoorObPkAO
import Derived.Lib.IndexMore
import Derived.Lib.SlicesCompact

/- Which terms' handles are found in bytes, in plain Lean. No condition. -/
namespace Go.Proofs.YtcfbbgbjlgonpaaGreatDoor
open Go.RowKit
set_option linter.unusedVariables false
set_option linter.unusedSimpArgs false
/-- Is a term's handle's first half at a place? -/
def occ (b : List UInt8) (id : Nat) (k : Nat) : Bool := (List.range k).any fun i => (b.drop i).take 16 == (handleL id).take 16
def isF (T : List Nd) (b : List UInt8) (id : Nat) : Bool := decide (kindOf T (id : Int) ≠ 2) && occ b id (b.length - 15)
def findN (T : List Nd) (b : List UInt8) (k : Nat) : List Nat := ((List.range k).map (· + 1)).filter (isF T b)
def findL (T : List Nd) (b : List UInt8) : List Int := (findN T b T.length).map fun (n : Nat) => (n : Int)
theorem findN_succ (T : List Nd) (b : List UInt8) (k : Nat) : findN T b (k + 1) = findN T b k ++ (if isF T b (k + 1) = true then [k + 1] else []) := by
  unfold findN
  rw [List.range_succ, List.map_append, List.filter_append]
  congr 1
  by_cases h : isF T b (k + 1) = true
  · simp [h]
  · simp [h]
theorem findN_len (T : List Nd) (b : List UInt8) (k : Nat) : (findN T b k).length ≤ k := by
  unfold findN
  refine Nat.le_trans (List.length_filter_le _ _) ?_
  simp
theorem occ_succ (b : List UInt8) (id k : Nat) : occ b id (k + 1) = (occ b id k || ((b.drop k).take 16 == (handleL id).take 16)) := by
  unfold occ
  rw [List.range_succ, List.any_append]
  simp
/-- A magic word at a place, and a term's number behind it. -/
def Hit (T : List Nd) (b : List UInt8) (i id : Nat) : Prop := i + 16 ≤ b.length ∧ (b.drop i).take 8 = magicL ∧ getL ((b.drop (i + 8)).take 8) = id ∧ 1 ≤ id ∧ id ≤ T.length ∧ bearsT T (id : Int) = true
theorem getL_inj : ∀ (s : Nat) (a c : List UInt8), a.length = s → c.length = s → getL a = getL c → a = c
  | 0, a, c, ha, hc, _ => by rw [List.length_eq_zero_iff.1 ha, List.length_eq_zero_iff.1 hc]
  | s + 1, a, c, ha, hc, h => by
    have na : a ≠ [] := by intro e; rw [e] at ha; cases ha
    have nc : c ≠ [] := by intro e; rw [e] at hc; cases hc
    rw [← List.dropLast_concat_getLast na, ← List.dropLast_concat_getLast nc] at h
    rw [getL_snoc, getL_snoc] at h
    have h1 := (a.getLast na).toNat_lt
    have h2 := (c.getLast nc).toNat_lt
    have e1 : getL a.dropLast = getL c.dropLast := by omega
    have e2 : (a.getLast na).toNat = (c.getLast nc).toNat := by omega
    have e3 := getL_inj s a.dropLast c.dropLast (by rw [List.length_dropLast, ha]; rfl) (by rw [List.length_dropLast, hc]; rfl) e1
    have e4 : a.getLast na = c.getLast nc := UInt8.toNat_inj.1 e2
    rw [← List.dropLast_concat_getLast na, ← List.dropLast_concat_getLast nc, e3, e4]
theorem handle_half (id : Nat) : (handleL id).take 16 = magicL ++ be id 8 := by
  rw [handleL_eq]
  exact List.take_left' (by rw [List.length_append, be_len8]; rfl)
theorem half_iff {b : List UInt8} {i id : Nat} (hi : i + 16 ≤ b.length) (hid : id ≤ 1000) : (b.drop i).take 16 = (handleL id).take 16 ↔ (b.drop i).take 8 = magicL ∧ getL ((b.drop (i + 8)).take 8) = id := by
  have e : (b.drop i).take 16 = (b.drop i).take 8 ++ (b.drop (i + 8)).take 8 := by
    rw [show 16 = 8 + 8 from rfl, List.take_add, List.drop_drop]
  have hl8 : ((b.drop (i + 8)).take 8).length = 8 := by rw [List.length_take, List.length_drop]; omega
  have hm8 : ((b.drop i).take 8).length = 8 := by rw [List.length_take, List.length_drop]; omega
  have hbe : getL (be id 8) = id := getL_be 8 id (by have : (256 : Nat) ^ 8 = 18446744073709551616 := by decide
                                                     omega)
  rw [e, handle_half]
  constructor
  · intro h
    have h2 := List.append_inj h (by rw [hm8]; rfl)
    exact ⟨h2.1, by rw [h2.2]; exact hbe⟩
  · rintro ⟨h1, h2⟩
    rw [h1, getL_inj 8 _ (be id 8) hl8 (be_len8 id) (by rw [h2, hbe])]
theorem isF_hit {T : List Nd} (hK : Kinds T) (hn : T.length ≤ 1000) (b : List UInt8) {id : Nat} (h1 : 1 ≤ id) (h2 : id ≤ T.length) : isF T b id = true ↔ ∃ i, Hit T b i id := by
  have hk0 : kindOf T (id : Int) ≠ 0 := by
    unfold kindOf
    have ho : outside T.length (id : Int) = false := by unfold outside; simp; omega
    rw [ho, Int.toNat_natCast]
    have hlt : id - 1 < T.length := by omega
    rw [List.getElem?_eq_getElem hlt]
    have := hK _ (List.getElem_mem hlt)
    show T[id - 1].k ≠ 0
    omega
  have hb : (bearsT T (id : Int) = true) ↔ kindOf T (id : Int) ≠ 2 := by
    unfold bearsT
    rw [Bool.and_eq_true, decide_eq_true_eq, decide_eq_true_eq]
    exact ⟨fun h => h.2, fun h => ⟨hk0, h⟩⟩
  unfold isF occ
  rw [Bool.and_eq_true, decide_eq_true_eq, List.any_eq_true]
  constructor
  · rintro ⟨h3, i, hi, he⟩
    rw [List.mem_range] at hi
    have hi16 : i + 16 ≤ b.length := by omega
    have := (half_iff hi16 (by omega)).1 (beq_iff_eq.1 he)
    exact ⟨i, hi16, this.1, this.2, h1, h2, hb.2 h3⟩
  · rintro ⟨i, hi16, hm, hg, _, _, hbb⟩
    exact ⟨hb.1 hbb, i, List.mem_range.2 (by omega), beq_iff_eq.2 ((half_iff hi16 (by omega)).2 ⟨hm, hg⟩)⟩
theorem sorted_ext : ∀ (a c : List Int), a.Pairwise (· < ·) → c.Pairwise (· < ·) → (∀ x, x ∈ a ↔ x ∈ c) → a = c
  | [], [], _, _, _ => rfl
  | [], y :: c, _, _, h => absurd ((h y).2 List.mem_cons_self) (by simp)
  | x :: a, [], _, _, h => absurd ((h x).1 List.mem_cons_self) (by simp)
  | x :: a, y :: c, ha, hc, h => by
    rw [List.pairwise_cons] at ha hc
    have hxy : x = y := by
      rcases List.mem_cons.1 ((h x).1 List.mem_cons_self) with e | e
      · exact e
      · rcases List.mem_cons.1 ((h y).2 List.mem_cons_self) with e2 | e2
        · exact e2.symm
        · have := hc.1 x e; have := ha.1 y e2; omega
    subst hxy
    rw [sorted_ext a c ha.2 hc.2 fun z => ?_]
    constructor
    · intro hz
      rcases List.mem_cons.1 ((h z).1 (List.mem_cons_of_mem _ hz)) with e | e
      · have := ha.1 z hz; omega
      · exact e
    · intro hz
      rcases List.mem_cons.1 ((h z).2 (List.mem_cons_of_mem _ hz)) with e | e
      · have := hc.1 z hz; omega
      · exact e
theorem compact_mem_i (S : List Int) (x : Int) : x ∈ Lib.compact S ↔ x ∈ S := by
  unfold Lib.compact Lib.compactUpTo
  rw [List.mem_map]
  constructor
  · rintro ⟨j, hj, rfl⟩
    rw [List.mem_filter, List.mem_range] at hj
    rw [getElem!_pos S.toArray j (by simpa using hj.1)]
    simp
  · intro hx
    obtain ⟨n, hn, he⟩ := List.mem_iff_getElem.1 hx
    have go : ∀ n (hn : n < S.length), S[n] = x → ∃ j, j ∈ (List.range S.length).filter (Lib.keeps S.toArray) ∧ S.toArray[j]! = x := by
      intro n
      induction n with
      | zero => exact fun hn he => ⟨0, List.mem_filter.2 ⟨List.mem_range.2 hn, by simp [Lib.keeps]⟩, by rw [getElem!_pos S.toArray 0 (by simpa using hn)]; simpa using he⟩
      | succ n ih =>
        intro hn he
        by_cases hq : S[n] = x
        · exact ih (by omega) hq
        · refine ⟨n + 1, List.mem_filter.2 ⟨List.mem_range.2 hn, Lib.keeps_pos ?_⟩, by rw [getElem!_pos S.toArray (n + 1) (by simpa using hn)]; simpa using he⟩
          rw [getElem!_pos S.toArray (n + 1) (by simpa using hn), getElem!_pos S.toArray (n + 1 - 1) (by simp; omega)]
          simp only [List.getElem_toArray, Nat.add_sub_cancel]
          rw [he]
          exact fun e => hq e.symm
    exact go n hn he
theorem compact_up (S : List Int) (h : S.Pairwise (· ≤ ·)) : (Lib.compact S).Pairwise (· < ·) := by
  unfold Lib.compact Lib.compactUpTo
  rw [List.pairwise_map, List.pairwise_filter]
  refine List.Pairwise.imp_of_mem ?_ (List.pairwise_lt_range (n := S.length))
  intro i j hi hj hlt ki kj
  rw [List.mem_range] at hi hj
  rw [getElem!_pos S.toArray i (by simpa using hi), getElem!_pos S.toArray j (by simpa using hj)]
  simp only [List.getElem_toArray]
  have h2 : S.toArray[j]! ≠ S.toArray[j - 1]! := by
    unfold Lib.keeps at kj
    rcases of_decide_eq_true kj with e | e
    · omega
    · exact e
  rw [getElem!_pos S.toArray j (by simpa using hj), getElem!_pos S.toArray (j - 1) (by simp; omega)] at h2
  simp only [List.getElem_toArray] at h2
  rw [List.pairwise_iff_getElem] at h
  have h3 := h (j - 1) j (by omega) hj (by omega)
  by_cases hij : i = j - 1
  · subst hij; omega
  · have h4 := h i (j - 1) hi (by omega) (by omega)
    omega
theorem findL_up (T : List Nd) (b : List UInt8) : (findL T b).Pairwise (· < ·) := by
  unfold findL findN
  rw [List.pairwise_map]
  refine List.Pairwise.filter _ ?_
  rw [List.pairwise_map]
  refine List.Pairwise.imp ?_ (List.pairwise_lt_range (n := T.length))
  intro a c h
  omega
theorem findL_mem {T : List Nd} (hK : Kinds T) (hn : T.length ≤ 1000) (b : List UInt8) (x : Int) : x ∈ findL T b ↔ ∃ i id : Nat, Hit T b i id ∧ x = (id : Int) := by
  unfold findL findN
  simp only [List.mem_map, List.mem_filter, List.mem_range]
  constructor
  · rintro ⟨id, ⟨⟨k, hk, rfl⟩, hf⟩, rfl⟩
    obtain ⟨i, hi⟩ := (isF_hit hK hn b (by omega) (by omega)).1 hf
    exact ⟨i, k + 1, hi, rfl⟩
  · rintro ⟨i, id, hi, rfl⟩
    have h1 := hi.2.2.2.1; have h2 := hi.2.2.2.2.1
    exact ⟨id, ⟨⟨id - 1, by omega, by omega⟩, (isF_hit hK hn b h1 h2).2 ⟨i, hi⟩⟩, rfl⟩
/-- What is gathered, sorted and without its like, is what is found. -/
theorem find_sorted {T : List Nd} (hK : Kinds T) (hn : T.length ≤ 1000) (b : List UInt8) (O : List Int) (hO : ∀ x, x ∈ O ↔ ∃ i id : Nat, Hit T b i id ∧ x = (id : Int)) : Lib.compact (O.mergeSort fun x y => decide (x ≤ y)) = findL T b := by
  refine sorted_ext _ _ (compact_up _ ?_) (findL_up T b) fun x => ?_
  · have := List.pairwise_mergeSort (le := fun x y : Int => decide (x ≤ y)) (by intro a c d h1 h2; simp at *; omega) (by intro a c; simp; omega) O
    exact this.imp (fun h => by simpa using h)
  · rw [compact_mem_i, (List.mergeSort_perm O _).mem_iff, hO, findL_mem hK hn]
/-- The program's search: what is gathered ahead of a place. -/
def Got (T : List Nd) (b : List UInt8) (j : Nat) (O : List Int) : Prop := ∀ x : Int, x ∈ O ↔ ∃ i id : Nat, i < j ∧ Hit T b i id ∧ x = (id : Int)
theorem Got.nil (T : List Nd) (b : List UInt8) : Got T b 0 [] := fun x => ⟨fun h => (by cases h), fun ⟨i, id, h, _⟩ => absurd h (Nat.not_lt_zero _)⟩
theorem noHit {T : List Nd} {b : List UInt8} {j i k id : Nat} (h : Lib.NoOcc (b.drop j) magicL k) (h1 : j ≤ i) (h2 : i < j + k) : ¬ Hit T b i id := fun q => by
  have h3 := h (i - j) (by omega)
  unfold Lib.occAt at h3
  rw [List.drop_drop, show j + (i - j) = i by omega] at h3
  have h4 : magicL.isPrefixOf (b.drop i) = true := by
    rw [List.isPrefixOf_iff_prefix, List.prefix_iff_eq_take]
    exact q.2.1.symm
  rw [h4] at h3
  cases h3
theorem occ_magic {b : List UInt8} {j k : Nat} (h : Lib.occAt (b.drop j) magicL k = true) : (b.drop (j + k)).take 8 = magicL := by
  unfold Lib.occAt at h
  rw [List.drop_drop, List.isPrefixOf_iff_prefix, List.prefix_iff_eq_take] at h
  exact h.symm
/-- A magic word at j + k: the number behind it counts, if it is a term's. -/
theorem Got.more {T : List Nd} {b : List UInt8} {j k : Nat} {O : List Int} (h : Got T b j O) (hno : Lib.NoOcc (b.drop j) magicL k) (ho : Lib.occAt (b.drop j) magicL k = true) (hl : j + k + 16 ≤ b.length) (n : Nat) (hn : n = getL ((b.drop (j + k + 8)).take 8)) :
    Got T b (j + k + 1) (if 1 ≤ n ∧ n ≤ T.length ∧ bearsT T (n : Int) = true then O ++ [(n : Int)] else O) := by
  intro x
  have hmem : x ∈ (if 1 ≤ n ∧ n ≤ T.length ∧ bearsT T (n : Int) = true then O ++ [(n : Int)] else O) ↔ x ∈ O ∨ ((1 ≤ n ∧ n ≤ T.length ∧ bearsT T (n : Int) = true) ∧ x = (n : Int)) := by
    split
    · next hc => rw [List.mem_append, List.mem_singleton]; exact ⟨fun q => q.imp id (fun e => ⟨hc, e⟩), fun q => q.imp id (fun e => e.2)⟩
    · next hc => exact ⟨Or.inl, fun q => q.resolve_right (fun e => hc e.1)⟩
  rw [hmem, h x]
  constructor
  · rintro (⟨i, id, h1, h2, h3⟩ | ⟨hc, rfl⟩)
    · exact ⟨i, id, by omega, h2, h3⟩
    · exact ⟨j + k, n, by omega, ⟨hl, occ_magic ho, hn.symm, hc.1, hc.2.1, hc.2.2⟩, rfl⟩
  · rintro ⟨i, id, h1, h2, rfl⟩
    by_cases h3 : i < j
    · exact .inl ⟨i, id, h3, h2, rfl⟩
    · by_cases h4 : i < j + k
      · exact absurd h2 (noHit hno (by omega) h4)
      · obtain rfl : i = j + k := by omega
        have h5 := h2.2.2.1
        rw [← hn] at h5
        subst h5
        exact .inr ⟨h2.2.2.2, rfl⟩
/-- No more room, or no more magic: all is gathered. -/
theorem Got.all {T : List Nd} {b : List UInt8} {j k : Nat} {O : List Int} (h : Got T b j O) (hno : Lib.NoOcc (b.drop j) magicL k) (hl : b.length < j + k + 16) : ∀ x : Int, x ∈ O ↔ ∃ i id : Nat, Hit T b i id ∧ x = (id : Int) := fun x => by
  rw [h x]
  constructor
  · rintro ⟨i, id, _, h2, h3⟩; exact ⟨i, id, h2, h3⟩
  · rintro ⟨i, id, h2, h3⟩
    refine ⟨i, id, ?_, h2, h3⟩
    by_cases h4 : i < j
    · exact h4
    · by_cases h5 : i < j + k
      · exact absurd h2 (noHit hno (by omega) h5)
      · have := h2.1
        omega
end Go.Proofs.YtcfbbgbjlgonpaaGreatDoor
