/- What every act keeps: the parts lie before, every term fits, no two are the same. No condition. -/
import Derived.Test.YthlnoaalhojphaaDoorObTermH
namespace Go.Proofs.YthlnoaalhojphaaDoor
open Go.RowKit Go.Maps
set_option linter.unusedVariables false

structure TIn (T : List Nd) : Prop where
  parts : Parted T
  fit : Fit' T
  uniq : Uniq T
theorem TIn.nil : TIn [] := ⟨fun i x h => (by simp at h), fun x h => (by cases h), fun j j' y y' _ h => (by simp at h)⟩
theorem TIn.ok {T : List Nd} (h : TIn T) (hn : T.length ≤ 1000) : TOk T := ⟨h.fit, h.uniq, hn⟩
theorem TIn.kinds {T : List Nd} (h : TIn T) : Kinds T := fun x hx => by
  obtain ⟨i, hi⟩ := List.mem_iff_getElem?.1 hx
  exact (h.parts i x hi).1
theorem TIn.snoc {T : List Nd} (h : TIn T) {x : Nd} (hk : 1 ≤ x.k ∧ x.k ≤ 5) (hp : ∀ p ∈ x.parts, 1 ≤ p ∧ p ≤ T.length) (hf : x.fits) (hs : x.k ≠ 1 → ∀ y ∈ T, y.k ≠ 1 → y.same x = false) : TIn (T ++ [x]) := by
  have at' : ∀ i y, (T ++ [x])[i]? = some y → (i < T.length ∧ T[i]? = some y) ∨ (i = T.length ∧ y = x) := fun i y hy => by
    rcases Nat.lt_or_ge i T.length with hl | hl
    · rw [List.getElem?_append_left hl] at hy
      exact .inl ⟨hl, hy⟩
    · rw [List.getElem?_append_right hl] at hy
      rcases Nat.lt_or_ge i (T.length + 1) with h1 | h1
      · have e : i = T.length := by omega
        subst e
        rw [Nat.sub_self] at hy
        simp at hy
        exact .inr ⟨rfl, hy.symm⟩
      · rw [List.getElem?_eq_none (by simp; omega)] at hy
        cases hy
  refine ⟨fun i y hy => ?_, fun y hy => ?_, fun j j' y y' hj hy hy' hk1 hk2 => ?_⟩
  · rcases at' i y hy with ⟨_, h1⟩ | ⟨rfl, rfl⟩
    · exact h.parts i y h1
    · exact ⟨hk, hp⟩
  · rcases List.mem_append.1 hy with h1 | h1
    · exact h.fit y h1
    · rw [List.mem_singleton] at h1
      rw [h1]; exact hf
  · rcases at' j' y' hy' with ⟨_, h1⟩ | ⟨rfl, rfl⟩
    · rcases at' j y hy with ⟨_, h2⟩ | ⟨rfl, rfl⟩
      · exact h.uniq j j' y y' hj h2 h1 hk1 hk2
      · omega
    · rcases at' j y hy with ⟨_, h2⟩ | ⟨h2, rfl⟩
      · exact hs hk2 y (List.mem_of_getElem? h2) hk1
      · omega
theorem putT_in {T : List Nd} (h : TIn T) {x : Nd} {ids : List Int} (hk : 1 ≤ x.k ∧ x.k ≤ 5) (hp : ∀ p ∈ x.parts, (p : Int) ∈ ids) (hf : x.fits) : TIn (putT T x ids).1 ∧ T.length ≤ (putT T x ids).1.length ∧ (putT T x ids).1.length ≤ T.length + 1 := by
  unfold putT
  split
  · exact ⟨h, Nat.le_refl _, Nat.le_succ _⟩
  · next ho =>
    cases hfd : findT T x with
    | some j => exact ⟨h, Nat.le_refl _, Nat.le_succ _⟩
    | none =>
      refine ⟨h.snoc hk (fun p hpp => ?_) hf (fun _ y hy hk1 => ?_), by simp, by simp⟩
      · have := hp p hpp
        rw [Bool.not_eq_true, List.any_eq_false] at ho
        have h2 := ho _ this
        unfold outside at h2
        simp at h2
        omega
      · unfold findT at hfd
        rw [List.findIdx?_eq_none_iff] at hfd
        have := hfd y hy
        simpa [hk1] using this
theorem doT_in {T : List Nd} (h : TIn T) (hn : T.length ≤ 1000) (k a b : Int) (s : ByteArray) (hs : s.size ≤ maxLen) : TIn (doT T k a b s).1 ∧ T.length ≤ (doT T k a b s).1.length ∧ (doT T k a b s).1.length ≤ T.length + 1 := by
  have stay : TIn T ∧ T.length ≤ T.length ∧ T.length ≤ T.length + 1 := ⟨h, Nat.le_refl _, Nat.le_succ _⟩
  have pair : ∀ k', (k' = 4 ∨ k' = 5) → TIn (pairT T k' a b).1 ∧ T.length ≤ (pairT T k' a b).1.length ∧ (pairT T k' a b).1.length ≤ T.length + 1 := fun k' hk' => by
    unfold pairT
    split
    · exact stay
    · next ho =>
      unfold outside at ho
      simp at ho
      refine putT_in h ⟨by show 1 ≤ k'; omega, by show k' ≤ 5; omega⟩ (fun p hp => ?_) ⟨by show k' ≤ _; omega, by show a.toNat ≤ _; omega, by show b.toNat ≤ _; omega, by show ByteArray.empty.size ≤ _; decide⟩
      have hp' : p = a.toNat ∨ p = b.toNat := by
        unfold Nd.parts at hp
        rcases hk' with rfl | rfl <;> simpa using hp
      rcases hp' with rfl | rfl
      · have : ((a.toNat : Nat) : Int) = a := by omega
        rw [this]; simp
      · have : ((b.toNat : Nat) : Int) = b := by omega
        rw [this]; simp
  unfold doT
  split
  · unfold atomT
    have := atoms_le T
    exact ⟨h.snoc ⟨by dsimp only; decide, by dsimp only; decide⟩ (fun p hp => by simp [Nd.parts] at hp) ⟨by dsimp only; decide, by dsimp only; decide, by dsimp only; decide, by show ByteArray.empty.size ≤ _; decide⟩ (fun hk => (hk rfl).elim), by simp, by simp⟩
  split
  · exact putT_in h ⟨by dsimp only; decide, by dsimp only; decide⟩ (fun p hp => by simp [Nd.parts] at hp) ⟨by dsimp only; decide, by dsimp only; decide, by dsimp only; decide, hs⟩
  split
  · unfold kdfT
    split
    · exact stay
    · next ho =>
      unfold outside at ho
      simp at ho
      refine putT_in h ⟨by dsimp only; decide, by dsimp only; decide⟩ (fun p hp => ?_) ⟨by dsimp only; decide, by show a.toNat ≤ _; omega, by dsimp only; decide, hs⟩
      have hp' : p = a.toNat := by simpa [Nd.parts] using hp
      have : ((a.toNat : Nat) : Int) = a := by omega
      rw [hp', this]; simp
  split
  · exact pair 4 (.inl rfl)
  · exact pair 5 (.inr rfl)
end Go.Proofs.YthlnoaalhojphaaDoor
