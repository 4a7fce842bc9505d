/- Who knows terms: the rounds of 'closed', in plain Lean. No condition. -/
import Derived.Test.YthlnoaalhojphaaObKnowF
namespace Go.Proofs.Ythlnoaalhojphaa
open Go.RowKit
set_option linter.unusedVariables false
def InL (l : List Int) : Nat → Prop := fun i => (i : Int) ∈ l
/-- What stands in 'had' at a round's head. -/
structure HadOk (T : List Nd) (l : List Int) (hd : List Bool) : Prop where
  len : hd.length = T.length + 1
  der : ∀ id, dAt hd id = true → Der T (InL l) id
  has : ∀ id, 1 ≤ id → id ≤ T.length → InL l id → dAt hd id = true
/-- Behind the ids below j of a round. -/
structure ScanI (T : List Nd) (l : List Int) (had hd : List Bool) (j : Nat) (more : Bool) : Prop where
  ok : HadOk T l hd
  no : more = false → hd = had ∧ ∀ i x, T[i]? = some x → i + 1 < j → x.k = 5 → dAt (builtL T had) (i + 1) = true → dAt (builtL T had) x.a = true → dAt (builtL T had) x.b = true
  yes : more = true → cnt had < cnt hd
theorem ScanI.start {T : List Nd} {l : List Int} {had : List Bool} (h : HadOk T l had) : ScanI T l had had 0 false := ⟨h, fun _ => ⟨rfl, fun i x _ hi => by omega⟩, fun h => by cases h⟩
/-- Nothing follows of an id. -/
theorem ScanI.skip {T : List Nd} {l : List Int} {had hd : List Bool} {j : Nat} {more : Bool} (h : ScanI T l had hd j more) (hn : ∀ i x, T[i]? = some x → i + 1 = j → x.k = 5 → dAt (builtL T had) j = true → dAt (builtL T had) x.a = true → dAt (builtL T had) x.b = true) : ScanI T l had hd (j + 1) more :=
  ⟨h.ok, fun hm => ⟨(h.no hm).1, fun i x hx hi hk h1 h2 => by
    rcases Nat.lt_or_ge (i + 1) j with q | q
    · exact (h.no hm).2 i x hx q hk h1 h2
    · have e : i + 1 = j := by omega
      exact hn i x hx e hk (e ▸ h1) h2⟩, h.yes⟩
theorem cnt_mono {d : List Bool} {i : Nat} (hi : i < d.length) : cnt d ≤ cnt (d.set i true) := by
  cases h : dAt d i with
  | false => exact Nat.le_of_lt (cnt_set hi h)
  | true =>
    have e : d.set i true = d := by
      apply List.ext_getElem (by simp)
      intro k h1 h2
      rw [List.getElem_set]
      split
      · next q =>
        subst q
        unfold dAt at h
        rw [List.getD_eq_getElem?_getD, List.getElem?_eq_getElem hi] at h
        simpa using h.symm
      · rfl
    rw [e]; exact Nat.le_refl _
theorem had_built {T : List Nd} (hT : Parted T) {had : List Bool} {i : Nat} {x : Nd} (hx : T[i]? = some x) (h : dAt (builtL T had) (i + 1) = false) : dAt had (i + 1) = false := by
  rw [builtL_at hT had hx] at h
  cases hh : dAt had (i + 1) with
  | false => rfl
  | true => rw [hh] at h; simp at h
/-- A sealed one is opened: what it holds comes to be had. -/
theorem ScanI.opens {T : List Nd} (hT : Parted T) {l : List Int} {had hd : List Bool} {i : Nat} {x : Nd} {more : Bool} (hhad : HadOk T l had) (h : ScanI T l had hd (i + 1) more) (hx : T[i]? = some x) (hk : x.k = 5) (h1 : dAt (builtL T had) (i + 1) = true) (h2 : dAt (builtL T had) x.a = true) (h3 : dAt (builtL T had) x.b = false) : ScanI T l had (hd.set x.b true) (i + 2) true := by
  have hil := (List.getElem?_eq_some_iff.1 hx).1
  have hb := (hT i x hx).2 x.b (by simp [Nd.parts, hk])
  have hbl : x.b < hd.length := by rw [h.ok.len]; omega
  have hs := builtL_sound hT hhad.der
  obtain ⟨y, hy⟩ : ∃ y, T[x.b - 1]? = some y := ⟨_, List.getElem?_eq_getElem (show x.b - 1 < T.length by omega)⟩
  have hb0 : dAt had x.b = false := by
    have e : x.b - 1 + 1 = x.b := by omega
    have := had_built hT (had := had) hy (by rw [e]; exact h3)
    rwa [e] at this
  refine ⟨⟨by rw [List.length_set]; exact h.ok.len, fun id hid => ?_, fun id q1 q2 q3 => ?_⟩, fun q => by (exact absurd q (by decide)), fun _ => ?_⟩
  · rw [dAt_set _ _ _ _ hbl] at hid
    by_cases e : x.b = id
    · rw [← e]
      exact Der.opens hx hk (hs _ h1) (hs _ h2)
    · rw [if_neg e] at hid
      exact h.ok.der id hid
  · rw [dAt_set _ _ _ _ hbl]
    split
    · rfl
    · exact h.ok.has id q1 q2 q3
  · cases hm : more with
    | false =>
      rw [(h.no hm).1]
      exact cnt_set (by rw [hhad.len]; omega) hb0
    | true => exact Nat.lt_of_lt_of_le (h.yes hm) (cnt_mono hbl)
theorem ScanI.tells {T : List Nd} (hT : Parted T) {l : List Int} {had hd : List Bool} {j : Nat} (h : ScanI T l had hd j false) (hj : T.length < j) : Tells T (InL l) (builtL T had) := by
  obtain ⟨e, hn⟩ := h.no rfl
  have ho := h.ok
  rw [e] at ho
  exact built_tells hT ho.der ho.has (fun i x hx hk h1 h2 => hn i x hx (by have := (List.getElem?_eq_some_iff.1 hx).1; omega) hk h1 h2)
end Go.Proofs.Ythlnoaalhojphaa
