/- Own texts of this claim, one behind the other. No condition. -/
import Derived.Test.YtcfbbgbjlgonpaaGreatDoorObPkAA
import Derived.Test.YtcfbbgbjlgonpaaGreatDoorProg
import Derived.Deep.QuietTactic
import Derived.BigQuiet
import Init

namespace Go.Proofs.YtcfbbgbjlgonpaaGreatDoor
open Go.RowKit
set_option linter.unusedVariables false

/-! ### slices of numbers -/
theorem tNums : ElemT Tryz.prog 50 3 (.int .i64 0) 1 8 := ⟨Tryz.underlying50, by kernel_rfl, rfl, by decide, by decide⟩
def RetIs (w : World) (l : List Int) (e : Ending) (w' : World) : Prop := ∃ v, e = .returned v ∧ Own w w' 3 1 v l.length (l.map i64c)
theorem Is.len {w : World} {A : Option Addr} {n c : Nat} {l : List Int} (h : Is w A n c l) : l.length = n := by have := Sl.len h; simpa using this
theorem Is.addr {w : World} {A : Option Addr} {n c : Nat} {l : List Int} (h : Is w A n c l) (hn : 0 < n) :
    ∃ b o, A = some ⟨b, o, none⟩ ∧ ∀ j, j < n → w.cell? ⟨b, o + j, none⟩ = some (.int .i64 (iAt l j)) := by
  obtain ⟨b, o, e, hc⟩ := Sl.addr h hn
  exact ⟨b, o, e, fun j hj => hc j _ (by
    have : j < l.length := by rw [h.len]; exact hj
    rw [List.getElem?_map, List.getElem?_eq_getElem this]; simp [i64c, iAt, this])⟩
theorem takeI_same {a b : List Int} {k : Nat} (ha : k < a.length) (hb : k < b.length) (h : a.take k = b.take k) (he : iAt a k = iAt b k) : a.take (k + 1) = b.take (k + 1) := by
  rw [List.take_succ_eq_append_getElem ha, List.take_succ_eq_append_getElem hb, h]
  have : a[k] = b[k] := by simpa [iAt, ha, hb] using he
  rw [this]
theorem ne_of_iAt {a b : List Int} {k : Nat} (h : iAt a k ≠ iAt b k) : (a == b) = false := by
  rw [beq_eq_false_iff_ne]; rintro rfl; exact h rfl

/-! ### numbers -/
set_option maxHeartbeats 400000 in
theorem ints_any (A B : Option Addr) (n m c d : Nat) (a b : List Int) (w : World) (ha : Is w A n c a) (hb : Is w B m d b) :
    Calls Tryz.prog 29 #[.slice A n c, .slice B m d] w fun e w' => e = .returned (.bool (a == b)) ∧ ∃ k, w' = w.drewN k := by
  have hla := ha.len
  have hlb := hb.len
  have ma := ha.max
  have mb := hb.max
  have ca := ha.cap
  have cb := hb.cap
  by_cases hnm : n = m
  · subst hnm
    have HA := Lib.hid ha; have HB := Lib.hid hb; clear ha hb
    have HLA := Lib.hid hla; have HLB := Lib.hid hlb; clear hla hlb
    have t1 : ((n : Int) != (n : Int)) = false := by simp
    go_enter Tryz.func29, Tryz.ntmps29
    go_wp2
    clear t1
    go_loopw [5] (fun i wr => ∃ k q : Nat, k ≤ n ∧ i = .int .i64 k ∧ wr = w.drewN q ∧ a.take k = b.take k) (fun i _ => n - (intOf i).toNat)
    case atStart => exact ⟨0, 0, Nat.zero_le _, rfl, rfl, rfl⟩
    case round =>
      obtain ⟨k, q, hk, rfl, rfl, hsame⟩ := hrel
      have HSM := Lib.hid hsame; clear hsame
      by_cases hlt : k < n
      · obtain ⟨b1, o1, rfl, hc1⟩ := HA.out.addr (by omega)
        obtain ⟨b2, o2, rfl, hc2⟩ := HB.out.addr (by omega)
        have c1 : w.cell? ⟨b1, o1 + k, none⟩ = some _ := hc1 k hlt
        have c2 : w.cell? ⟨b2, o2 + k, none⟩ = some _ := hc2 k hlt
        have HC1 := Lib.hid hc1; have HC2 := Lib.hid hc2; clear hc1 hc2
        by_cases he : iAt a k = iAt b k
        · have t1 : (iAt a k != iAt b k) = false := by simp [he]
          have HE := Lib.hid he; clear he
          go_wp2
          go_quiet (fail)
          go_wp2
          go_roundw
          case rel => exact ⟨k + 1, _, by omega, by go_num, rfl, takeI_same (by rw [HLA.out]; exact hlt) (by rw [HLB.out]; exact hlt) HSM.out HE.out⟩
          case measure => simp [intOf]; omega
        · have t1 : (iAt a k != iAt b k) = true := by simpa using he
          have HE := Lib.hid (ne_of_iAt he); clear he
          go_wp2
          go_quiet (fail)
          go_wp2
          go_ret
          exact ⟨ret_bool HE.out.symm, _, World.drewN_drewN _ _ _⟩
      · obtain rfl : k = n := by omega
        have HE : Hid ((a == b) = true) := by
          have h := HSM.out
          rw [List.take_of_length_le (by rw [HLA.out]; omega), List.take_of_length_le (by rw [HLB.out]; omega)] at h
          exact beq_iff_eq.2 h
        go_wp2
        go_ret
        exact ⟨ret_bool HE.out.symm, _, rfl⟩
  · have t1 : ((n : Int) != (m : Int)) = true := by rw [bne_iff_ne]; omega
    have HE : Hid ((a == b) = false) := by
      apply beq_eq_false_iff_ne.2
      rintro rfl
      omega
    clear ha hb
    go_enter Tryz.func29, Tryz.ntmps29
    go_wp2
    go_ret
    exact ⟨ret_bool HE.out.symm, 0, rfl⟩
end Go.Proofs.YtcfbbgbjlgonpaaGreatDoor

/- Terms in plain Lean: what is derived of what was learned, as the least set that is closed, as the reference's rounds reach it. No condition. -/
namespace Go.Proofs.YtcfbbgbjlgonpaaGreatDoor
set_option linter.unusedVariables false

/-- A term: its kind (1 an atom, 2 a text, 3 kdf, 4 mix, 5 enc), its parts, its label, an atom's number. -/
structure Nd where
  k : Nat
  a : Nat
  b : Nat
  s : ByteArray
  n : Nat
deriving DecidableEq
def Nd.parts (x : Nd) : List Nat := if x.k = 3 then [x.a] else if x.k < 3 then [] else [x.a, x.b]
/-- Parts are there, with lesser ids; kinds are 1 to 5. -/
def Parted (T : List Nd) : Prop := ∀ i x, T[i]? = some x → (1 ≤ x.k ∧ x.k ≤ 5) ∧ ∀ p ∈ x.parts, 1 ≤ p ∧ p ≤ i

/-- What is derived of the ids L. -/
inductive Der (T : List Nd) (L : Nat → Prop) : Nat → Prop
  | know {id : Nat} : 1 ≤ id → id ≤ T.length → L id → Der T L id
  | make {i : Nat} {x : Nd} : T[i]? = some x → x.k ≠ 1 → (∀ p ∈ x.parts, Der T L p) → Der T L (i + 1)
  | opens {i : Nat} {x : Nd} : T[i]? = some x → x.k = 5 → Der T L (i + 1) → Der T L x.a → Der T L x.b

theorem Der.mono {T : List Nd} {L L' : Nat → Prop} (h : ∀ id, L id → L' id) {id : Nat} (hd : Der T L id) : Der T L' id := by
  induction hd with
  | know h1 h2 h3 => exact .know h1 h2 (h _ h3)
  | make hx hk _ ih => exact .make hx hk ih
  | opens hx hk _ _ ih1 ih2 => exact .opens hx hk ih1 ih2
/-- What is derived teaches nothing. -/
theorem Der.idem {T : List Nd} {L L' : Nat → Prop} (h : ∀ id, L' id → Der T L id) {id : Nat} (hd : Der T L' id) : Der T L id := by
  induction hd with
  | know h1 h2 h3 => exact h _ h3
  | make hx hk _ ih => exact .make hx hk ih
  | opens hx hk _ _ ih1 ih2 => exact .opens hx hk ih1 ih2
theorem Der.bound {T : List Nd} (hT : Parted T) {L : Nat → Prop} {id : Nat} (hd : Der T L id) : 1 ≤ id ∧ id ≤ T.length := by
  induction hd with
  | know h1 h2 h3 => exact ⟨h1, h2⟩
  | @make i x hx hk _ ih => have := (List.getElem?_eq_some_iff.1 hx).1; omega
  | @opens i x hx hk _ _ ih1 ih2 =>
    have h1 := (List.getElem?_eq_some_iff.1 hx).1
    have h2 := (hT i x hx).2 x.b (by simp [Nd.parts, hk])
    omega

/-! ### lists of bools, a place for each id -/
def dAt (d : List Bool) (id : Nat) : Bool := d.getD id false
/-- Closed under the rules. -/
structure Shut (T : List Nd) (L : Nat → Prop) (d : List Bool) : Prop where
  know : ∀ id, 1 ≤ id → id ≤ T.length → L id → dAt d id = true
  make : ∀ i x, T[i]? = some x → x.k ≠ 1 → (∀ p ∈ x.parts, dAt d p = true) → dAt d (i + 1) = true
  opens : ∀ i x, T[i]? = some x → x.k = 5 → dAt d (i + 1) = true → dAt d x.a = true → dAt d x.b = true
theorem Shut.all {T : List Nd} {L : Nat → Prop} {d : List Bool} (h : Shut T L d) {id : Nat} (hd : Der T L id) : dAt d id = true := by
  induction hd with
  | know h1 h2 h3 => exact h.know _ h1 h2 h3
  | make hx hk _ ih => exact h.make _ _ hx hk ih
  | opens hx hk _ _ ih1 ih2 => exact h.opens _ _ hx hk ih1 ih2
/-- A list that tells just what is derived. -/
def Tells (T : List Nd) (L : Nat → Prop) (d : List Bool) : Prop := d.length = T.length + 1 ∧ ∀ id, dAt d id = true ↔ Der T L id
theorem Tells.uniq {T : List Nd} {L : Nat → Prop} {d d' : List Bool} (h : Tells T L d) (h' : Tells T L d') : d = d' := by
  apply List.ext_getElem (by rw [h.1, h'.1])
  intro i h1 h2
  have e1 : dAt d i = d[i] := by unfold dAt; rw [List.getD_eq_getElem?_getD, List.getElem?_eq_getElem h1]; rfl
  have e2 : dAt d' i = d'[i] := by unfold dAt; rw [List.getD_eq_getElem?_getD, List.getElem?_eq_getElem h2]; rfl
  rw [← e1, ← e2]
  exact Bool.eq_iff_iff.2 ((h.2 i).trans (h'.2 i).symm)
theorem Tells.of {T : List Nd} {L : Nat → Prop} {d : List Bool} (hl : d.length = T.length + 1) (hs : Shut T L d) (hd : ∀ id, dAt d id = true → Der T L id) : Tells T L d := ⟨hl, fun id => ⟨hd id, hs.all⟩⟩

/-! ### the reference's rounds -/
/-- One id of a round: of d, into out. -/
def roundOne (d out : List Bool) (id : Nat) (x : Nd) : List Bool :=
  let out1 := out.set id (dAt out id || (decide (x.k ≠ 1) && x.parts.all (dAt d)))
  if x.k = 5 ∧ dAt d id = true ∧ dAt d x.a = true then out1.set x.b true else out1
def roundTo (T : List Nd) (d : List Bool) : Nat → List Bool
  | 0 => d
  | i + 1 => match T[i]? with
    | none => roundTo T d i
    | some x => roundOne d (roundTo T d i) (i + 1) x
def roundL (T : List Nd) (d : List Bool) : List Bool := roundTo T d T.length
def startOne (n : Nat) (d : List Bool) (x : Int) : List Bool := if 1 ≤ x ∧ x ≤ n then d.set x.toNat true else d
def startL (n : Nat) (l : List Int) : List Bool := l.foldl (startOne n) (List.replicate (n + 1) false)
def roundsL (T : List Nd) (d : List Bool) : Nat → List Bool
  | 0 => d
  | k + 1 => roundL T (roundsL T d k)

theorem dAt_set (d : List Bool) (i j : Nat) (v : Bool) (h : i < d.length) : dAt (d.set i v) j = if i = j then v else dAt d j := by
  unfold dAt
  rw [List.getD_eq_getElem?_getD, List.getD_eq_getElem?_getD, List.getElem?_set]
  by_cases e : i = j
  · subst e; simp [h]
  · simp [e]
theorem roundOne_len (d out : List Bool) (id : Nat) (x : Nd) : (roundOne d out id x).length = out.length := by
  unfold roundOne; simp only; split <;> simp
theorem roundTo_len (T : List Nd) (d : List Bool) : ∀ i, (roundTo T d i).length = d.length
  | 0 => rfl
  | i + 1 => by
    unfold roundTo
    split
    · exact roundTo_len T d i
    · rw [roundOne_len]; exact roundTo_len T d i
/-- What a round has told behind i ids. -/
theorem roundTo_at {T : List Nd} (hT : Parted T) {d : List Bool} (hd : d.length = T.length + 1) : ∀ i, i ≤ T.length → ∀ j, dAt (roundTo T d i) j = true ↔
    dAt d j = true ∨ (∃ i' x, i' < i ∧ T[i']? = some x ∧ j = i' + 1 ∧ x.k ≠ 1 ∧ ∀ p ∈ x.parts, dAt d p = true) ∨ (∃ i' x, i' < i ∧ T[i']? = some x ∧ x.k = 5 ∧ dAt d (i' + 1) = true ∧ dAt d x.a = true ∧ j = x.b)
  | 0, _, j => by
    constructor
    · exact fun h => .inl h
    · rintro (h | ⟨i', x, h, _⟩ | ⟨i', x, h, _⟩)
      · exact h
      · omega
      · omega
  | i + 1, hi, j => by
    have IH := roundTo_at hT hd i (by omega)
    obtain ⟨x, hx⟩ : ∃ x, T[i]? = some x := ⟨T[i]'(by omega), List.getElem?_eq_getElem _⟩
    have hlen : (roundTo T d i).length = T.length + 1 := by rw [roundTo_len, hd]
    have hb : x.k = 5 → x.b ≤ i := fun hk => ((hT i x hx).2 x.b (by simp [Nd.parts, hk])).2
    have e : roundTo T d (i + 1) = roundOne d (roundTo T d i) (i + 1) x := by
      conv => lhs; unfold roundTo
      rw [hx]
    rw [e]
    unfold roundOne
    simp only
    have step : ∀ (P1 P2 : Prop), (dAt (roundTo T d i) j = true ∨ P1 ∨ P2) ↔ (dAt d j = true ∨ ((∃ i' x, i' < i ∧ T[i']? = some x ∧ j = i' + 1 ∧ x.k ≠ 1 ∧ ∀ p ∈ x.parts, dAt d p = true) ∨ P1) ∨ ((∃ i' x, i' < i ∧ T[i']? = some x ∧ x.k = 5 ∧ dAt d (i' + 1) = true ∧ dAt d x.a = true ∧ j = x.b) ∨ P2)) := fun P1 P2 => by
      rw [IH j]
      constructor
      · rintro ((h | h | h) | h | h)
        · exact .inl h
        · exact .inr (.inl (.inl h))
        · exact .inr (.inr (.inl h))
        · exact .inr (.inl (.inr h))
        · exact .inr (.inr (.inr h))
      · rintro (h | (h | h) | (h | h))
        · exact .inl (.inl h)
        · exact .inl (.inr (.inl h))
        · exact .inr (.inl h)
        · exact .inl (.inr (.inr h))
        · exact .inr (.inr h)
    have ex1 : (∃ i' y, i' < i + 1 ∧ T[i']? = some y ∧ j = i' + 1 ∧ y.k ≠ 1 ∧ ∀ p ∈ y.parts, dAt d p = true) ↔ ((∃ i' y, i' < i ∧ T[i']? = some y ∧ j = i' + 1 ∧ y.k ≠ 1 ∧ ∀ p ∈ y.parts, dAt d p = true) ∨ (j = i + 1 ∧ x.k ≠ 1 ∧ ∀ p ∈ x.parts, dAt d p = true)) := by
      constructor
      · rintro ⟨i', y, h1, h2, h3⟩
        rcases Nat.lt_or_ge i' i with h | h
        · exact .inl ⟨i', y, h, h2, h3⟩
        · obtain rfl : i' = i := by omega
          rw [hx] at h2; cases h2
          exact .inr h3
      · rintro (⟨i', y, h1, h2, h3⟩ | h)
        · exact ⟨i', y, by omega, h2, h3⟩
        · exact ⟨i, x, by omega, hx, h⟩
    have ex2 : (∃ i' y, i' < i + 1 ∧ T[i']? = some y ∧ y.k = 5 ∧ dAt d (i' + 1) = true ∧ dAt d y.a = true ∧ j = y.b) ↔ ((∃ i' y, i' < i ∧ T[i']? = some y ∧ y.k = 5 ∧ dAt d (i' + 1) = true ∧ dAt d y.a = true ∧ j = y.b) ∨ (x.k = 5 ∧ dAt d (i + 1) = true ∧ dAt d x.a = true ∧ j = x.b)) := by
      constructor
      · rintro ⟨i', y, h1, h2, h3⟩
        rcases Nat.lt_or_ge i' i with h | h
        · exact .inl ⟨i', y, h, h2, h3⟩
        · obtain rfl : i' = i := by omega
          rw [hx] at h2; cases h2
          exact .inr h3
      · rintro (⟨i', y, h1, h2, h3⟩ | h)
        · exact ⟨i', y, by omega, h2, h3⟩
        · exact ⟨i, x, by omega, hx, h⟩
    rw [ex1, ex2, ← step]
    have hall : (x.parts.all (dAt d)) = true ↔ ∀ p ∈ x.parts, dAt d p = true := List.all_eq_true
    have base : dAt ((roundTo T d i).set (i + 1) (dAt (roundTo T d i) (i + 1) || (decide (x.k ≠ 1) && x.parts.all (dAt d)))) j = true ↔ dAt (roundTo T d i) j = true ∨ (j = i + 1 ∧ x.k ≠ 1 ∧ ∀ p ∈ x.parts, dAt d p = true) := by
      rw [dAt_set _ _ _ _ (by omega)]
      by_cases e : i + 1 = j
      · subst e
        rw [if_pos rfl, Bool.or_eq_true, Bool.and_eq_true, decide_eq_true_iff, hall]
        simp
      · rw [if_neg e]
        constructor
        · exact fun h => .inl h
        · rintro (h | ⟨h, _⟩)
          · exact h
          · exact absurd h.symm e
    split
    · rename_i hc
      rw [dAt_set _ _ _ _ (by simp; have := hb hc.1; omega)]
      by_cases e : x.b = j
      · subst e
        rw [if_pos rfl]
        exact ⟨fun _ => .inr (.inr ⟨hc.1, hc.2.1, hc.2.2, rfl⟩), fun _ => rfl⟩
      · rw [if_neg e, base]
        constructor
        · rintro (h | h)
          · exact .inl h
          · exact .inr (.inl h)
        · rintro (h | h | h)
          · exact .inl h
          · exact .inr h
          · exact absurd h.2.2.2.symm e
    · rename_i hc
      rw [base]
      constructor
      · rintro (h | h)
        · exact .inl h
        · exact .inr (.inl h)
      · rintro (h | h | h)
        · exact .inl h
        · exact .inr h
        · exact absurd ⟨h.1, h.2.1, h.2.2.1⟩ hc

theorem startOne_len (n : Nat) (d : List Bool) (x : Int) : (startOne n d x).length = d.length := by unfold startOne; split <;> simp
theorem startL_snoc (n : Nat) (l : List Int) (x : Int) : startL n (l ++ [x]) = startOne n (startL n l) x := by simp [startL]
theorem foldS_len (n : Nat) : ∀ (l : List Int) (d : List Bool), (l.foldl (startOne n) d).length = d.length
  | [], _ => rfl
  | x :: l, d => by rw [List.foldl_cons, foldS_len n l, startOne_len]
theorem startL_len (n : Nat) (l : List Int) : (startL n l).length = n + 1 := by unfold startL; rw [foldS_len]; simp
theorem foldS_at (n : Nat) : ∀ (l : List Int) (d : List Bool) (id : Nat), d.length = n + 1 → (dAt (l.foldl (startOne n) d) id = true ↔ dAt d id = true ∨ (1 ≤ id ∧ id ≤ n ∧ (id : Int) ∈ l))
  | [], d, id, _ => by simp
  | x :: l, d, id, hd => by
    rw [List.foldl_cons, foldS_at n l _ id (by rw [startOne_len]; exact hd)]
    unfold startOne
    split
    · rename_i hx
      rw [dAt_set _ _ _ _ (by omega)]
      by_cases e : x.toNat = id
      · subst e
        rw [if_pos rfl]
        exact ⟨fun _ => .inr ⟨by omega, by omega, by rw [Int.toNat_of_nonneg (by omega)]; exact List.mem_cons_self⟩, fun _ => .inl rfl⟩
      · rw [if_neg e]
        constructor
        · rintro (h | ⟨h1, h2, h3⟩)
          · exact .inl h
          · exact .inr ⟨h1, h2, List.mem_cons_of_mem _ h3⟩
        · rintro (h | ⟨h1, h2, h3⟩)
          · exact .inl h
          · rcases List.mem_cons.1 h3 with h3 | h3
            · exact absurd (by omega) e
            · exact .inr ⟨h1, h2, h3⟩
    · rename_i hx
      constructor
      · rintro (h | ⟨h1, h2, h3⟩)
        · exact .inl h
        · exact .inr ⟨h1, h2, List.mem_cons_of_mem _ h3⟩
      · rintro (h | ⟨h1, h2, h3⟩)
        · exact .inl h
        · rcases List.mem_cons.1 h3 with h3 | h3
          · exact absurd ⟨by omega, by omega⟩ hx
          · exact .inr ⟨h1, h2, h3⟩
theorem dAt_rep (n id : Nat) : dAt (List.replicate n false) id = false := by
  unfold dAt
  rw [List.getD_eq_getElem?_getD, List.getElem?_replicate]
  split <;> rfl
theorem startL_at (n : Nat) (l : List Int) (id : Nat) : dAt (startL n l) id = true ↔ 1 ≤ id ∧ id ≤ n ∧ (id : Int) ∈ l := by
  unfold startL
  rw [foldS_at n l _ id (by simp), dAt_rep]
  simp
def cnt (d : List Bool) : Nat := (d.filter id).length
theorem cnt_le (d : List Bool) : cnt d ≤ d.length := List.length_filter_le _ _
theorem cnt_up : ∀ d d' : List Bool, d.length = d'.length → (∀ i, dAt d i = true → dAt d' i = true) → d = d' ∨ cnt d < cnt d'
  | [], [], _, _ => .inl rfl
  | [], _ :: _, h, _ => by simp at h
  | _ :: _, [], h, _ => by simp at h
  | x :: d, y :: d', hl, h => by
    have h0 : x = true → y = true := by have := h 0; simpa [dAt] using this
    have hs : ∀ i, dAt d i = true → dAt d' i = true := fun i => by have := h (i + 1); simpa [dAt] using this
    have IH := cnt_up d d' (by simpa using hl) hs
    have e : ∀ (z : Bool) (l : List Bool), cnt (z :: l) = (if z then 1 else 0) + cnt l := fun z l => by
      unfold cnt
      cases z <;> simp; omega
    rw [e, e]
    cases x <;> cases y
    · rcases IH with IH | IH
      · exact .inl (by rw [IH])
      · right; simpa using IH
    · right
      rcases IH with IH | IH
      · rw [IH]; simp
      · simp; omega
    · exact absurd (h0 rfl) (by decide)
    · rcases IH with IH | IH
      · exact .inl (by rw [IH])
      · right; simp; omega
theorem cnt_set {d : List Bool} {i : Nat} (hi : i < d.length) (h : dAt d i = false) : cnt d < cnt (d.set i true) := by
  rcases cnt_up d (d.set i true) (by simp) (fun j hj => by
    rw [dAt_set _ _ _ _ hi]
    split
    · rfl
    · exact hj) with e | e
  · exfalso
    have : dAt (d.set i true) i = true := by rw [dAt_set _ _ _ _ hi, if_pos rfl]
    rw [← e, h] at this
    cases this
  · exact e
theorem roundsL_len (T : List Nd) (d : List Bool) : ∀ k, (roundsL T d k).length = d.length
  | 0 => rfl
  | k + 1 => by show (roundL T (roundsL T d k)).length = _; unfold roundL; rw [roundTo_len]; exact roundsL_len T d k
theorem rounds_fix {T : List Nd} (hT : Parted T) {d : List Bool} (hd : d.length = T.length + 1) : ∀ k, roundL T (roundsL T d k) = roundsL T d k ∨ k ≤ cnt (roundsL T d k)
  | 0 => .inr (Nat.zero_le _)
  | k + 1 => by
    have hl : (roundsL T d k).length = T.length + 1 := by rw [roundsL_len, hd]
    show roundL T (roundL T (roundsL T d k)) = roundL T (roundsL T d k) ∨ _
    rcases rounds_fix hT hd k with h | h
    · left; rw [h, h]
    · rcases cnt_up (roundsL T d k) (roundL T (roundsL T d k)) (by unfold roundL; rw [roundTo_len]) (fun i hi => (roundTo_at hT hl T.length (Nat.le_refl _) i).2 (.inl hi)) with e | e
      · left; rw [← e, ← e]
      · right
        show k + 1 ≤ cnt (roundL T (roundsL T d k))
        omega
def allL (T : List Nd) (l : List Int) : List Bool := roundsL T (startL T.length l) (2 * T.length + 2)
theorem rounds_sound {T : List Nd} (hT : Parted T) (l : List Int) : ∀ k id, dAt (roundsL T (startL T.length l) k) id = true → Der T (fun i => (i : Int) ∈ l) id
  | 0, id, h => by
    obtain ⟨h1, h2, h3⟩ := (startL_at _ _ _).1 h
    exact .know h1 h2 h3
  | k + 1, id, h => by
    have IH := rounds_sound hT l k
    rcases (roundTo_at hT (by rw [roundsL_len, startL_len]) T.length (Nat.le_refl _) id).1 h with h | ⟨i, x, _, hx, rfl, hk, hp⟩ | ⟨i, x, _, hx, hk, h1, h2, rfl⟩
    · exact IH id h
    · exact .make hx hk (fun p hpp => IH p (hp p hpp))
    · exact .opens hx hk (IH _ h1) (IH _ h2)
theorem rounds_up {T : List Nd} (hT : Parted T) {d : List Bool} (hd : d.length = T.length + 1) (id : Nat) (h : dAt d id = true) : ∀ k, dAt (roundsL T d k) id = true
  | 0 => h
  | k + 1 => (roundTo_at hT (by rw [roundsL_len, hd]) T.length (Nat.le_refl _) id).2 (.inl (rounds_up hT hd id h k))
theorem allL_tells {T : List Nd} (hT : Parted T) (l : List Int) : Tells T (fun i => (i : Int) ∈ l) (allL T l) := by
  have hs := startL_len T.length l
  have hlen : (allL T l).length = T.length + 1 := by unfold allL; rw [roundsL_len, hs]
  have hfix : roundL T (allL T l) = allL T l := by
    rcases rounds_fix hT hs (2 * T.length + 2) with h | h
    · exact h
    · exfalso
      have := cnt_le (roundsL T (startL T.length l) (2 * T.length + 2))
      rw [roundsL_len, hs] at this
      omega
  have hat := fun j => roundTo_at hT hlen T.length (Nat.le_refl _) j
  have hat : ∀ j, dAt (roundL T (allL T l)) j = true ↔ _ := hat
  rw [hfix] at hat
  refine Tells.of hlen ⟨fun id h1 h2 h3 => rounds_up hT hs id ((startL_at _ _ _).2 ⟨h1, h2, h3⟩) _, fun i x hx hk hp => (hat _).2 (.inr (.inl ⟨i, x, (List.getElem?_eq_some_iff.1 hx).1, hx, rfl, hk, hp⟩)), fun i x hx hk h1 h2 => (hat _).2 (.inr (.inr ⟨i, x, (List.getElem?_eq_some_iff.1 hx).1, hx, hk, h1, h2, rfl⟩))⟩ (rounds_sound hT l _)

/-! ### the program's way: built of what is had -/
def builtOne (had out : List Bool) (id : Nat) (x : Nd) : List Bool := out.set id (dAt had id || (decide (x.k ≠ 1) && x.parts.all (dAt out)))
def builtTo (T : List Nd) (had : List Bool) : Nat → List Bool
  | 0 => List.replicate (T.length + 1) false
  | i + 1 => match T[i]? with
    | none => builtTo T had i
    | some x => builtOne had (builtTo T had i) (i + 1) x
def builtL (T : List Nd) (had : List Bool) : List Bool := builtTo T had T.length
theorem builtTo_len (T : List Nd) (had : List Bool) : ∀ i, (builtTo T had i).length = T.length + 1
  | 0 => by simp [builtTo]
  | i + 1 => by
    unfold builtTo
    split
    · exact builtTo_len T had i
    · unfold builtOne; rw [List.length_set]; exact builtTo_len T had i
theorem builtTo_low (T : List Nd) (had : List Bool) (i j : Nat) (hj : j ≠ i + 1) : dAt (builtTo T had (i + 1)) j = dAt (builtTo T had i) j := by
  conv => lhs; unfold builtTo
  split
  · rfl
  · rename_i x hx
    unfold builtOne
    rw [dAt_set _ _ _ _ (by rw [builtTo_len]; have := (List.getElem?_eq_some_iff.1 hx).1; omega), if_neg (fun e => hj e.symm)]
theorem builtTo_stays (T : List Nd) (had : List Bool) (j : Nat) : ∀ i, j ≤ i → dAt (builtTo T had i) j = dAt (builtTo T had j) j
  | 0, h => by have : j = 0 := by omega
               subst this; rfl
  | i + 1, h => by
    by_cases e : j = i + 1
    · subst e; rfl
    · rw [builtTo_low T had i j e]; exact builtTo_stays T had j i (by omega)
theorem builtL_at {T : List Nd} (hT : Parted T) (had : List Bool) {i : Nat} {x : Nd} (hx : T[i]? = some x) : dAt (builtL T had) (i + 1) = (dAt had (i + 1) || (decide (x.k ≠ 1) && x.parts.all (dAt (builtL T had)))) := by
  have hi := (List.getElem?_eq_some_iff.1 hx).1
  unfold builtL
  rw [builtTo_stays T had (i + 1) T.length (by omega)]
  conv => lhs; unfold builtTo
  rw [hx]
  simp only
  unfold builtOne
  rw [dAt_set _ _ _ _ (by rw [builtTo_len]; omega), if_pos rfl]
  congr 2
  have : ∀ p ∈ x.parts, dAt (builtTo T had i) p = dAt (builtTo T had T.length) p := fun p hp => by
    have hpi := ((hT i x hx).2 p hp).2
    rw [builtTo_stays T had p i hpi, builtTo_stays T had p T.length (by omega)]
  rw [Bool.eq_iff_iff, List.all_eq_true, List.all_eq_true]
  exact ⟨fun h p hp => by rw [← this p hp]; exact h p hp, fun h p hp => by rw [this p hp]; exact h p hp⟩
theorem builtTo_zero (T : List Nd) (had : List Bool) : ∀ i, dAt (builtTo T had i) 0 = false
  | 0 => dAt_rep _ _
  | i + 1 => by rw [builtTo_low T had i 0 (by omega)]; exact builtTo_zero T had i
theorem builtL_out (T : List Nd) (had : List Bool) {id : Nat} (h : dAt (builtL T had) id = true) : ∃ i, id = i + 1 ∧ i < T.length := by
  cases id with
  | zero => rw [builtL, builtTo_zero] at h; cases h
  | succ i =>
    refine ⟨i, rfl, ?_⟩
    rcases Nat.lt_or_ge i T.length with hi | hi
    · exact hi
    · unfold dAt at h
      rw [List.getD_eq_getElem?_getD, List.getElem?_eq_none (by unfold builtL; rw [builtTo_len]; omega)] at h
      cases h
theorem builtL_sound {T : List Nd} (hT : Parted T) {L : Nat → Prop} {had : List Bool} (hs : ∀ id, dAt had id = true → Der T L id) : ∀ id, dAt (builtL T had) id = true → Der T L id := by
  intro id
  induction id using Nat.strongRecOn with
  | ind id ih =>
    intro h
    obtain ⟨i, rfl, hi⟩ := builtL_out T had h
    have hx : T[i]? = some T[i] := List.getElem?_eq_getElem hi
    rw [builtL_at hT had hx, Bool.or_eq_true, Bool.and_eq_true, decide_eq_true_iff, List.all_eq_true] at h
    rcases h with h | ⟨h1, h2⟩
    · exact hs _ h
    · exact .make hx h1 (fun p hp => ih p (by have := ((hT i _ hx).2 p hp).2; omega) (h2 p hp))
/-- Nothing more is opened: it is what is derived. -/
theorem built_tells {T : List Nd} (hT : Parted T) {L : Nat → Prop} {had : List Bool} (hs : ∀ id, dAt had id = true → Der T L id) (hk : ∀ id, 1 ≤ id → id ≤ T.length → L id → dAt had id = true)
    (hno : ∀ i x, T[i]? = some x → x.k = 5 → dAt (builtL T had) (i + 1) = true → dAt (builtL T had) x.a = true → dAt (builtL T had) x.b = true) : Tells T L (builtL T had) := by
  refine Tells.of (builtTo_len _ _ _) ⟨fun id h1 h2 h3 => ?_, fun i x hx h1 h2 => ?_, hno⟩ (builtL_sound hT hs)
  · obtain ⟨i, rfl⟩ : ∃ i, id = i + 1 := ⟨id - 1, by omega⟩
    rw [builtL_at hT had (List.getElem?_eq_getElem (show i < T.length by omega)), hk _ h1 h2 h3]
    rfl
  · rw [builtL_at hT had hx, decide_eq_true h1, List.all_eq_true.2 h2, Bool.and_self, Bool.or_true]
end Go.Proofs.YtcfbbgbjlgonpaaGreatDoor
