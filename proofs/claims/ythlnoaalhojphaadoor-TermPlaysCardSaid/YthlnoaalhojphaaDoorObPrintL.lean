/- The text of a term, in plain Lean. No condition. -/
import Derived.Test.YthlnoaalhojphaaDoorObTermR
import Derived.Test.YthlnoaalhojphaaDoorObStrC
namespace Go.Proofs.YthlnoaalhojphaaDoor
open Go.RowKit
set_option linter.unusedVariables false
def headS (k : Nat) : List UInt8 := if k = 3 then [107, 100, 102] else if k = 4 then [109, 105, 120] else [101, 110, 99]
def printF (T : List Nd) : Nat → Nat → List UInt8
  | 0, _ => []
  | f + 1, id => match T[id - 1]? with
    | none => []
    | some x => if x.k = 1 then 97 :: Lib.decDigits x.n else if x.k = 2 then 39 :: (x.s.data.toList ++ [39])
      else if x.k = 3 then headS 3 ++ [40] ++ printF T f x.a ++ ([44] ++ x.s.data.toList) ++ [41]
      else headS x.k ++ [40] ++ printF T f x.a ++ [44] ++ printF T f x.b ++ [41]
def printT (T : List Nd) (id : Nat) : List UInt8 := printF T id id
/-- Parts have lesser ids: more fuel tells nothing new. -/
theorem printF_more {T : List Nd} (hT : Parted T) : ∀ (f g id : Nat), 1 ≤ id → id ≤ f → id ≤ g → printF T f id = printF T g id
  | 0, _, id, h1, h2, _ => by omega
  | _, 0, id, h1, _, h3 => by omega
  | f + 1, g + 1, id, h1, h2, h3 => by
    unfold printF
    cases hx : T[id - 1]? with
    | none => rfl
    | some x =>
      have hp := (hT _ x hx).2
      have hk := (hT _ x hx).1
      dsimp only
      by_cases k1 : x.k = 1
      · rw [if_pos k1, if_pos k1]
      · rw [if_neg k1, if_neg k1]
        by_cases k2 : x.k = 2
        · rw [if_pos k2, if_pos k2]
        · rw [if_neg k2, if_neg k2]
          by_cases k3 : x.k = 3
          · rw [if_pos k3, if_pos k3]
            have ha := hp x.a (by simp [Nd.parts, k3])
            rw [printF_more hT f g x.a ha.1 (by omega) (by omega)]
          · rw [if_neg k3, if_neg k3]
            have ha := hp x.a (by unfold Nd.parts; rw [if_neg k3, if_neg (by omega)]; simp)
            have hb := hp x.b (by unfold Nd.parts; rw [if_neg k3, if_neg (by omega)]; simp)
            rw [printF_more hT f g x.a ha.1 (by omega) (by omega), printF_more hT f g x.b hb.1 (by omega) (by omega)]
theorem printT_at {T : List Nd} (hT : Parted T) {i : Nat} {x : Nd} (hx : T[i]? = some x) : printT T (i + 1) = if x.k = 1 then 97 :: Lib.decDigits x.n else if x.k = 2 then 39 :: (x.s.data.toList ++ [39])
      else if x.k = 3 then headS 3 ++ [40] ++ printT T x.a ++ ([44] ++ x.s.data.toList) ++ [41]
      else headS x.k ++ [40] ++ printT T x.a ++ [44] ++ printT T x.b ++ [41] := by
  conv => lhs; unfold printT printF
  rw [Nat.add_sub_cancel, hx]
  have hp := (hT i x hx).2
  have hk := (hT i x hx).1
  dsimp only
  by_cases k1 : x.k = 1
  · rw [if_pos k1, if_pos k1]
  · rw [if_neg k1, if_neg k1]
    by_cases k2 : x.k = 2
    · rw [if_pos k2, if_pos k2]
    · rw [if_neg k2, if_neg k2]
      by_cases k3 : x.k = 3
      · rw [if_pos k3, if_pos k3]
        have ha := hp x.a (by simp [Nd.parts, k3])
        rw [printF_more hT i x.a x.a ha.1 (by omega) (by omega)]; rfl
      · rw [if_neg k3, if_neg k3]
        have ha := hp x.a (by unfold Nd.parts; rw [if_neg k3, if_neg (by omega)]; simp)
        have hb := hp x.b (by unfold Nd.parts; rw [if_neg k3, if_neg (by omega)]; simp)
        rw [printF_more hT i x.a x.a ha.1 (by omega) (by omega), printF_more hT i x.b x.b hb.1 (by omega) (by omega)]; rfl
/-! ### sizes -/
theorem sizesL_take (T : List Nd) : ∀ i, i ≤ T.length → (sizesL T).take i = sizesL (T.take i) := by
  have hf : ∀ (V : List Nd) (S : List Nat), (V.foldl (fun S x => S ++ [sizeOf' S x.parts]) S).take S.length = S := by
    intro V
    induction V with
    | nil => intro S; exact List.take_length
    | cons x V ih =>
      intro S
      have h1 := ih (S ++ [sizeOf' S x.parts])
      have h2 := congrArg (List.take S.length) h1
      rw [List.take_take, List.length_append, Nat.min_eq_left (by simp), List.take_left'] at h2
      · exact h2
      · rfl
  have h : ∀ U V : List Nd, (sizesL (U ++ V)).take U.length = sizesL U := fun U V => by
    have := hf V (sizesL U)
    rw [sizesL_len] at this
    unfold sizesL at this ⊢
    rw [List.foldl_append]
    exact this
  intro i hi
  have := h (T.take i) (T.drop i)
  rw [List.take_append_drop, List.length_take, Nat.min_eq_left hi] at this
  exact this
theorem sizeOf'_congr (S S' : List Nat) (ps : List Nat) (h : ∀ p ∈ ps, S.getD (p - 1) 0 = S'.getD (p - 1) 0) : sizeOf' S ps = sizeOf' S' ps := by
  unfold sizeOf'
  have : ∀ (ps : List Nat) (a : Nat), (∀ p ∈ ps, S.getD (p - 1) 0 = S'.getD (p - 1) 0) → ps.foldl (fun n p => min (n + S.getD (p - 1) 0) great) a = ps.foldl (fun n p => min (n + S'.getD (p - 1) 0) great) a := by
    intro ps
    induction ps with
    | nil => intro a _; rfl
    | cons p ps ih =>
      intro a h
      rw [List.foldl_cons, List.foldl_cons, h p (by simp), ih _ (fun q hq => h q (List.mem_cons_of_mem _ hq))]
  exact this ps 1 h
theorem size_at {T : List Nd} (hT : Parted T) {i : Nat} {x : Nd} (hx : T[i]? = some x) : (sizesL T).getD i 0 = sizeOf' (sizesL T) x.parts := by
  have hi := (List.getElem?_eq_some_iff.1 hx).1
  have e : T.take (i + 1) = T.take i ++ [x] := by
    rw [List.take_succ_eq_append_getElem hi]
    rw [List.getElem?_eq_getElem hi] at hx
    rw [Option.some.inj hx]
  have h1 := sizesL_take T (i + 1) hi
  have h0 := sizesL_take T i (by omega)
  rw [e, sizesL_snoc] at h1
  have h2 : (sizesL T).getD i 0 = sizeOf' (sizesL (T.take i)) x.parts := by
    have : ((sizesL T).take (i + 1))[i]? = some (sizeOf' (sizesL (T.take i)) x.parts) := by
      rw [h1, List.getElem?_append_right (by rw [sizesL_len, List.length_take]; omega), sizesL_len]
      simp [Nat.min_eq_left (Nat.le_of_lt hi)]
    rw [List.getElem?_take_of_lt (by omega)] at this
    rw [List.getD_eq_getElem?_getD, this]; rfl
  rw [h2]
  refine sizeOf'_congr _ _ _ fun p hp => ?_
  have hpp := (hT i x hx).2 p hp
  rw [← h0, List.getD_eq_getElem?_getD, List.getD_eq_getElem?_getD, List.getElem?_take_of_lt (by omega)]
theorem decT_len : ∀ n, n < 100 → (Lib.decDigits n).length ≤ 2 := by decide +kernel
/-- What texts of terms need: few atoms, short labels. -/
structure Brief (T : List Nd) : Prop where
  n : ∀ x ∈ T, x.n < 100
  s : ∀ x ∈ T, x.s.size ≤ 40
theorem sz_one (S : List Nat) (a : Nat) : sizeOf' S [a] = min (1 + S.getD (a - 1) 0) great := rfl
theorem sz_two (S : List Nat) (a b : Nat) : sizeOf' S [a, b] = min (min (1 + S.getD (a - 1) 0) great + S.getD (b - 1) 0) great := rfl
theorem printT_len {T : List Nd} (hT : Parted T) (hB : Brief T) : ∀ (id : Nat), 1 ≤ id → id ≤ T.length → (sizesL T).getD (id - 1) 0 ≤ 1000 → (printT T id).length ≤ 60 * (sizesL T).getD (id - 1) 0 := by
  intro id
  induction id using Nat.strongRecOn with
  | ind id ih =>
    intro h1 h2 h3
    obtain ⟨i, rfl⟩ : ∃ i, id = i + 1 := ⟨id - 1, by omega⟩
    obtain ⟨x, hx⟩ : ∃ x, T[i]? = some x := ⟨_, List.getElem?_eq_getElem (show i < T.length by omega)⟩
    have hk := (hT i x hx).1
    have hp := (hT i x hx).2
    have hm := List.mem_of_getElem? hx
    have hn := decT_len x.n (hB.n x hm)
    have hs : x.s.data.toList.length ≤ 40 := hB.s x hm
    rw [Nat.add_sub_cancel] at h3 ⊢
    rw [size_at hT hx] at h3 ⊢
    rw [printT_at hT hx]
    unfold great at *
    by_cases k1 : x.k = 1
    · rw [if_pos k1]
      have e : x.parts = [] := by simp [Nd.parts, k1]
      rw [e]
      show _ ≤ 60 * 1
      simp; omega
    · rw [if_neg k1]
      by_cases k2 : x.k = 2
      · rw [if_pos k2]
        have e : x.parts = [] := by simp [Nd.parts, k2]
        rw [e]
        show _ ≤ 60 * 1
        simp at hs ⊢; omega
      · rw [if_neg k2]
        by_cases k3 : x.k = 3
        · rw [if_pos k3]
          have e : x.parts = [x.a] := by simp [Nd.parts, k3]
          rw [e] at hp h3 ⊢
          rw [sz_one] at h3 ⊢
          unfold great at *
          have ha := hp x.a (by simp)
          have ia := ih x.a (by omega) ha.1 (by omega) (by omega)
          clear ih
          generalize (sizesL T).getD (x.a - 1) 0 = u at *
          simp [headS] at hs ⊢; omega
        · rw [if_neg k3]
          have e : x.parts = [x.a, x.b] := by unfold Nd.parts; rw [if_neg k3, if_neg (by omega)]
          rw [e] at hp h3 ⊢
          rw [sz_two] at h3 ⊢
          unfold great at *
          have ha := hp x.a (by simp)
          have hb := hp x.b (by simp)
          have ia := ih x.a (by omega) ha.1 (by omega) (by omega)
          have ib := ih x.b (by omega) hb.1 (by omega) (by omega)
          have hh : (headS x.k).length = 3 := by unfold headS; (repeat' split) <;> rfl
          clear ih
          generalize (sizesL T).getD (x.a - 1) 0 = u at *
          generalize (sizesL T).getD (x.b - 1) 0 = v at *
          simp [hh]; omega
end Go.Proofs.YthlnoaalhojphaaDoor
