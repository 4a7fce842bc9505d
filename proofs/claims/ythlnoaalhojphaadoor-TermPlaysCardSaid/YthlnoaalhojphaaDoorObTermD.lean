/- The program's table of terms in memory: what a term is found by. No condition. -/
import Derived.Test.YthlnoaalhojphaaDoorObTermC
import Derived.Test.YthlnoaalhojphaaDoorObMapI
import Derived.DeepKeys4
import Derived.Maps.OwnSet
namespace Go.Proofs.YthlnoaalhojphaaDoor
open Go.RowKit Go.Maps
set_option linter.unusedVariables false

theorem lawKey : Keyed Tryd.prog 105 := Keyed.of_law (deep_law_laid (by kernel_rfl) (m := 3) (by decide) (of_decide_eq_true (by kernel_rfl)) (by kernel_rfl) (by kernel_rfl))
def keyV (x : Nd) : Value := .agg #[.int .i64 (x.k : Int), .int .i64 (x.a : Int), .int .i64 (x.b : Int), .string x.s]
/-- Numbers are numbers, a label is no longer than may be. -/
def Nd.fits (x : Nd) : Prop := x.k ≤ 9223372036854775807 ∧ x.a ≤ 9223372036854775807 ∧ x.b ≤ 9223372036854775807 ∧ x.s.size ≤ maxLen
theorem wf_nat {n : Nat} (h : n ≤ 9223372036854775807) : (Lit.int .i64 (n : Int)).wf = true := WalkArith.wf_i64 (by omega)
theorem key4_ex {P : Program} {k : TypeId} {f0 f1 f2 f3 : Field} {x0 x1 x2 : Int} {y : ByteArray} (hu : P.underlying k = some (.struct #[f0, f1, f2, f3])) (hk : P.keyType k = true) (hc : P.cellsOf k = 4) (hn : ¬f0.name = "_" ∧ ¬f1.name = "_" ∧ ¬f2.name = "_" ∧ ¬f3.name = "_") (hz : 0 < P.types.size)
    (u0 : P.underlying f0.type = some (.int .i64)) (u1 : P.underlying f1.type = some (.int .i64)) (u2 : P.underlying f2.type = some (.int .i64)) (u3 : P.underlying f3.type = some .string)
    (c0 : P.cellsOf f0.type = 1) (c1 : P.cellsOf f1.type = 1) (c2 : P.cellsOf f2.type = 1) (c3 : P.cellsOf f3.type = 1) (o0 : f0.offset = 0) (o1 : f1.offset = 1) (o2 : f2.offset = 2) (o3 : f3.offset = 3)
    (w0 : (Lit.int .i64 x0).wf = true) (w1 : (Lit.int .i64 x1).wf = true) (w2 : (Lit.int .i64 x2).wf = true) (h : y.size ≤ maxLen) :
    keyOf P k (.agg #[.int .i64 x0, .int .i64 x1, .int .i64 x2, .string y]) = some (.string (keyBytes [.int .i64 x0, .int .i64 x1, .int .i64 x2, .string y.data.toList])) := by
  obtain ⟨d, hd⟩ : ∃ d, P.types.size = d + 1 := ⟨P.types.size - 1, by omega⟩
  unfold keyOf
  simp [hu, hk, Value.formed, hc, Value.cells, Program.keyLits, hd, hn, u0, u1, u2, u3, c0, c1, c2, c3, o0, o1, o2, o3, w0, w1, w2, h]
def kl (x : Nd) : Lit := .string (keyBytes [.int .i64 (x.k : Int), .int .i64 (x.a : Int), .int .i64 (x.b : Int), .string x.s.data.toList])
theorem kl_ok (x : Nd) (h : x.fits) : keyOf Tryd.prog 105 (keyV x) = some (kl x) :=
  key4_ex Tryd.underlying105 (by kernel_rfl) (by kernel_rfl) (by decide) (of_decide_eq_true (by kernel_rfl)) Tryd.underlying3 Tryd.underlying3 Tryd.underlying3 Tryd.underlying9 (by kernel_rfl) (by kernel_rfl) (by kernel_rfl) (by kernel_rfl) rfl rfl rfl rfl (wf_nat h.1) (wf_nat h.2.1) (wf_nat h.2.2.1) h.2.2.2
def Nd.same (x y : Nd) : Bool := decide (x.k = y.k ∧ x.a = y.a ∧ x.b = y.b ∧ x.s = y.s)
theorem kl_inj {x y : Nd} (hx : x.fits) (hy : y.fits) : (kl x = kl y) ↔ x.same y = true := by
  unfold Nd.same
  rw [decide_eq_true_iff]
  constructor
  · intro h
    have h1 := kl_ok x hx
    rw [h] at h1
    have h2 := lawKey.inj h1 (kl_ok y hy)
    unfold keyV at h2
    simp at h2
    exact ⟨by omega, by omega, by omega, h2.2.2.2⟩
  · rintro ⟨h1, h2, h3, h4⟩
    unfold kl
    rw [h1, h2, h3, h4]

/-! ### the map: of each term that is no atom its id -/
def idV (i : Nat) : DataW Value := .held (.int .i64 ((i : Int) + 1))
def keysTo (T : List Nd) : Nat → DataW Value
  | 0 => .map []
  | i + 1 => match T[i]? with
    | none => keysTo T i
    | some x => if x.k = 1 then keysTo T i else (keysTo T i).put (kl x) (idV i)
/-- The place of a term that is the same. -/
def findT (T : List Nd) (x : Nd) : Option Nat := T.findIdx? fun y => decide (y.k ≠ 1) && y.same x
theorem kl_key (x : Nd) : WideAt.IsKeyLit (kl x) := by unfold kl; exact trivial
theorem keysTo_map (T : List Nd) : ∀ i, IsMap (keysTo T i)
  | 0 => ⟨[], rfl⟩
  | i + 1 => by
    unfold keysTo
    split
    · exact keysTo_map T i
    · split
      · exact keysTo_map T i
      · exact (keysTo_map T i).put _ _
def Fit' (T : List Nd) : Prop := ∀ x ∈ T, x.fits
theorem keysTo_low (T : List Nd) (x : Nd) : ∀ i, i ≤ T.length → keysTo (T ++ [x]) i = keysTo T i
  | 0, _ => rfl
  | i + 1, h => by
    unfold keysTo
    rw [List.getElem?_append_left (by omega), keysTo_low T x i (by omega)]
theorem keys_has {T : List Nd} (hT : Fit' T) {x : Nd} (hx : x.fits) : ∀ i, i ≤ T.length → has (keysTo T i) (kl x) = (T.take i).any (fun y => decide (y.k ≠ 1) && y.same x)
  | 0, _ => rfl
  | i + 1, h => by
    have hi : i < T.length := by omega
    have hy := List.getElem?_eq_getElem hi
    have hyf := hT T[i] (List.getElem_mem hi)
    rw [List.take_succ_eq_append_getElem hi, List.any_append, ← keys_has hT hx i (by omega)]
    conv => lhs; unfold keysTo
    rw [hy]
    simp only [List.any_cons, List.any_nil, Bool.or_false]
    split
    · rename_i h1
      rw [decide_eq_false (by simpa using h1), Bool.false_and, Bool.or_false]
    · rename_i h1
      rw [decide_eq_true h1, Bool.true_and]
      cases hs : T[i].same x with
      | true =>
        have e := (kl_inj hyf hx).2 hs
        rw [← e, has_put_same (keysTo_map T i) (kl_key _), Bool.or_true]
      | false =>
        rw [has_put_other (fun e => by have := (kl_inj hyf hx).1 e.symm; rw [hs] at this; cases this), Bool.or_false]
theorem keys_at {T : List Nd} (hT : Fit' T) {x : Nd} (hx : x.fits) (z : DataW Value) {j : Nat} {y : Nd} (hj : T[j]? = some y) (hk : y.k ≠ 1) (hs : y.same x = true) : ∀ i, i ≤ T.length → j < i → (∀ j' y', j < j' → j' < i → T[j']? = some y' → y'.k ≠ 1 → y'.same x = false) → (keysTo T i).atKey (kl x) z = idV j
  | 0, _, h, _ => by omega
  | i + 1, h, hji, hu => by
    have hi : i < T.length := by omega
    have hy := List.getElem?_eq_getElem hi
    have hyf := hT T[i] (List.getElem_mem hi)
    conv => lhs; unfold keysTo
    rw [hy]
    simp only
    by_cases e : i = j
    · subst e
      rw [hy] at hj
      cases hj
      rw [if_neg hk, ← (kl_inj hyf hx).2 hs, atKey_put_same (keysTo_map T i) (kl_key _)]
    · have IH := keys_at hT hx z hj hk hs i (by omega) (by omega) (fun j' y' h1 h2 => hu j' y' h1 (by omega))
      split
      · exact IH
      · rename_i h1
        have h2 := hu i T[i] (by omega) (by omega) hy h1
        rw [atKey_put_other (fun e => by have := (kl_inj hyf hx).1 e.symm; rw [h2] at this; cases this)]
        exact IH
/-- No two terms, but atoms, are the same. -/
def Uniq (T : List Nd) : Prop := ∀ (j j' : Nat) (y y' : Nd), j < j' → T[j]? = some y → T[j']? = some y' → y.k ≠ 1 → y'.k ≠ 1 → y.same y' = false
theorem same_trans {x y z : Nd} (h : x.same z = true) (k : y.same z = true) : x.same y = true := by
  unfold Nd.same at *
  rw [decide_eq_true_iff] at *
  exact ⟨h.1.trans k.1.symm, h.2.1.trans k.2.1.symm, h.2.2.1.trans k.2.2.1.symm, h.2.2.2.trans k.2.2.2.symm⟩
theorem find_yes {T : List Nd} (hT : Fit' T) (hu : Uniq T) {x : Nd} (hx : x.fits) {j : Nat} (h : findT T x = some j) (z : DataW Value) : has (keysTo T T.length) (kl x) = true ∧ (keysTo T T.length).atKey (kl x) z = idV j ∧ j < T.length := by
  unfold findT at h
  rw [List.findIdx?_eq_some_iff_getElem] at h
  obtain ⟨hj, hp, _⟩ := h
  rw [Bool.and_eq_true, decide_eq_true_iff] at hp
  have hjx := List.getElem?_eq_getElem hj
  refine ⟨?_, keys_at hT hx z hjx hp.1 hp.2 T.length (Nat.le_refl _) hj (fun j' y' h1 h2 h3 h4 => ?_), hj⟩
  · rw [keys_has hT hx T.length (Nat.le_refl _), List.take_of_length_le (Nat.le_refl _)]
    exact List.any_eq_true.2 ⟨T[j], List.getElem_mem hj, by rw [hp.2, decide_eq_true hp.1]; rfl⟩
  · rw [Bool.eq_false_iff]
    intro e
    have := hu j j' T[j] y' h1 hjx h3 hp.1 h4
    rw [same_trans hp.2 e] at this
    cases this
theorem find_no {T : List Nd} (hT : Fit' T) {x : Nd} (hx : x.fits) (h : findT T x = none) : has (keysTo T T.length) (kl x) = false := by
  unfold findT at h
  rw [List.findIdx?_eq_none_iff] at h
  rw [keys_has hT hx T.length (Nat.le_refl _), List.take_of_length_le (Nat.le_refl _), List.any_eq_false]
  intro y hy
  have := h y hy
  simpa using this
end Go.Proofs.YthlnoaalhojphaaDoor
