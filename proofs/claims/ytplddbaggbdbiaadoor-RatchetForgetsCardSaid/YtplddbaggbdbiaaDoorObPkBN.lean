/- Own texts of this claim, one behind the other. No condition. -/
import Derived.Test.YtplddbaggbdbiaaDoorObPkAS
import Derived.Test.YtplddbaggbdbiaaDoorObPkBM

/- A chain of terms, step by step; what was told, what can still be told. No condition. -/
namespace Go.Proofs.YtplddbaggbdbiaaDoor
open Go.RowKit
set_option linter.unusedVariables false
set_option linter.unusedSimpArgs false
theorem keyS_b : (⟨keyS.toArray⟩ : ByteArray) = keyB := rfl
theorem nextS_b : (⟨nextS.toArray⟩ : ByteArray) = nextB := rfl
theorem Cha.onto {T T' : List Nd} {c k : List Nat} (h : Cha T c k) (ho : Onto T T') (hi : TIn T') (h5 : ∀ x ∈ T', x.k ≠ 5) : Cha T' c k := by
  obtain ⟨a, x, e, hx, hk⟩ := h.c0
  refine ⟨hi, ⟨a, x, e, hx.onto ho, hk⟩, fun i a b h1 h2 => ?_, fun i a b h1 h2 => ?_, h.kl, h5⟩
  · obtain ⟨x, hx, r⟩ := h.cs i a b h1 h2
    exact ⟨x, hx.onto ho, r⟩
  · obtain ⟨x, hx, r⟩ := h.ks i a b h1 h2
    exact ⟨x, hx.onto ho, r⟩
theorem Cha.link {T : List Nd} {c k : List Nat} (h : Cha T c k) {i a : Nat} (e : c[i]? = some a) : ∃ x : Nd, At T a x ∧ x.k ≠ 2 ∧ x.k ≠ 0 := by
  obtain ⟨x, hx, h0, h1⟩ := h.at i a e
  refine ⟨x, hx, ?_⟩
  cases i with
  | zero => have := h0 rfl; omega
  | succ i => have := (h1 i rfl).1; omega
theorem Cha.keyAt {T : List Nd} {c k : List Nat} (h : Cha T c k) {i a : Nat} (e : k[i]? = some a) : ∃ x : Nd, At T a x ∧ x.k ≠ 2 ∧ x.k ≠ 0 := by
  have hl := (List.getElem?_eq_some_iff.1 e).1
  have := h.kl
  have ei : c[i]? = some (c[i]'(by omega)) := List.getElem?_eq_getElem (by omega)
  obtain ⟨x, hx, hk, _⟩ := h.ks i _ a ei e
  exact ⟨x, hx, by omega, by omega⟩
theorem put_no5 {T : List Nd} {x : Nd} {ids : List Int} (h : ∀ y ∈ T, y.k ≠ 5) (hx : x.k ≠ 5) : ∀ y ∈ (putT T x ids).1, y.k ≠ 5 := by
  unfold putT
  split
  · exact h
  · split
    · exact h
    · intro y hy
      rcases List.mem_append.1 hy with hy | hy
      · exact h y hy
      · rw [List.mem_singleton.1 hy]; exact hx
/-- What is derived of a handle. -/
theorem Cha.derived {T : List Nd} {c k : List Nat} (h : Cha T c k) (hn : T.length ≤ 990) {a : Nat} {x : Nd} (hx : At T a x) (h2 : x.k ≠ 2) (h0 : x.k ≠ 0) (s : ByteArray) (hs : s.size ≤ maxLen) :
    ∃ y : Nd, At (derT T (handleL a) s).1 (derT T (handleL a) s).2 y ∧ y.k = 3 ∧ y.a = a ∧ y.s = s ∧ Onto T (derT T (handleL a) s).1 ∧ Cha (derT T (handleL a) s).1 c k ∧ (derT T (handleL a) s).1.length ≤ T.length + 1 ∧ 0 < termB T (handleL a) := by
  have ht := term_handle hx (by omega) h2 h0
  have h1 := hx.1
  have hof : ofT T (handleL a) = (T, a) := by unfold ofT; rw [ht, if_pos (by omega)]
  have hin := derT_in h.inn (by omega) (handleL a) (by rw [handleL_len]; decide) s hs
  have hd : derT T (handleL a) s = putT T ⟨3, a, 0, s, 0⟩ [(a : Int)] := by
    unfold derT kdfT
    rw [hof]
    simp only []
    rw [hx.out]
    simp
  have ho : Onto T (derT T (handleL a) s).1 := by rw [hd]; exact put_onto _ _ _
  obtain ⟨y, hy, hq⟩ := put_at (T := T) (x := ⟨3, a, 0, s, 0⟩) (ids := [(a : Int)]) (by simp [hx.out]) (show (3 : Nat) ≠ 1 by decide)
  have hs := same_nd hq
  refine ⟨y, by rw [hd]; exact hy, hs.1, hs.2.1, hs.2.2.2, ho, h.onto ho hin.1 (by rw [hd]; exact put_no5 h.no5 (show (3 : Nat) ≠ 5 by decide)), ?_, by omega⟩
  rw [hd]
  exact put_len _ _ _
theorem take_snoc_at (k : List Nat) (p b : Nat) (h : p ≤ k.length) (i a : Nat) (e : (k.take p ++ [b])[i]? = some a) : (i < p ∧ k[i]? = some a) ∨ (i = p ∧ a = b) := by
  rcases Nat.lt_trichotomy i p with q | q | q
  · left
    rw [List.getElem?_append_left (by rw [List.length_take]; omega), List.getElem?_take_of_lt q] at e
    exact ⟨q, e⟩
  · right
    subst q
    rw [List.getElem?_append_right (by rw [List.length_take]; omega), List.length_take, Nat.min_eq_left h, Nat.sub_self] at e
    exact ⟨rfl, by simpa using e.symm⟩
  · rw [List.getElem?_eq_none (by rw [List.length_append, List.length_take]; simp; omega)] at e
    cases e
theorem take_snoc_lt (k : List Nat) (p b : Nat) (h : p ≤ k.length) (i : Nat) (hi : i < p) : (k.take p ++ [b])[i]? = k[i]? := by
  rw [List.getElem?_append_left (by rw [List.length_take]; omega), List.getElem?_take_of_lt hi]
theorem take_snoc_eq (k : List Nat) (p b : Nat) (h : p ≤ k.length) : (k.take p ++ [b])[p]? = some b := by
  rw [List.getElem?_append_right (by rw [List.length_take]; omega), List.length_take, Nat.min_eq_left h, Nat.sub_self]; rfl
theorem Cha.key {T : List Nd} {c k : List Nat} (h : Cha T c k) (hn : T.length ≤ 990) {p a : Nat} (hc : c.length = p + 1) (hk : p ≤ k.length) (e : c[p]? = some a) :
    Cha (derT T (handleL a) keyB).1 c (k.take p ++ [(derT T (handleL a) keyB).2]) ∧ Onto T (derT T (handleL a) keyB).1 ∧ (derT T (handleL a) keyB).1.length ≤ T.length + 1 ∧ 0 < termB T (handleL a) := by
  obtain ⟨x, hx, h2, h0⟩ := h.link e
  obtain ⟨y, hy, y1, y2, y3, ho, hch, hl, h00⟩ := h.derived hn hx h2 h0 keyB (by decide)
  refine ⟨⟨hch.inn, hch.c0, hch.cs, fun i a' b h1 h2 => ?_, by rw [List.length_append, List.length_take]; simp; omega, hch.no5⟩, ho, hl, h00⟩
  rcases take_snoc_at k p _ hk i b h2 with ⟨_, q⟩ | ⟨rfl, rfl⟩
  · exact hch.ks i a' b h1 q
  · rw [e] at h1
    injection h1 with h1
    subst h1
    exact ⟨y, hy, y1, y2, y3⟩
theorem Cha.next {T : List Nd} {c k : List Nat} (h : Cha T c k) (hn : T.length ≤ 990) {p a : Nat} (hc : c.length = p + 1) (e : c[p]? = some a) :
    Cha (derT T (handleL a) nextB).1 (c ++ [(derT T (handleL a) nextB).2]) k ∧ Onto T (derT T (handleL a) nextB).1 ∧ (derT T (handleL a) nextB).1.length ≤ T.length + 1 := by
  obtain ⟨x, hx, h2, h0⟩ := h.link e
  obtain ⟨y, hy, y1, y2, y3, ho, hch, hl, _⟩ := h.derived hn hx h2 h0 nextB (by decide)
  have up : ∀ (i a : Nat), c[i]? = some a → (c ++ [(derT T (handleL a) nextB).2])[i]? = some a := fun i a q => by
    rw [List.getElem?_append_left (List.getElem?_eq_some_iff.1 q).1]; exact q
  have dn : ∀ (i b v : Nat), (c ++ [v])[i]? = some b → c[i]? = some b ∨ (i = p + 1 ∧ b = v) := fun i b v q => by
    rcases Nat.lt_or_ge i c.length with r | r
    · left; rw [List.getElem?_append_left r] at q; exact q
    · right
      have hi : i = c.length := by
        have := (List.getElem?_eq_some_iff.1 q).1
        rw [List.length_append] at this
        simp at this
        omega
      subst hi
      rw [List.getElem?_append_right (Nat.le_refl _), Nat.sub_self] at q
      exact ⟨hc, by simpa using q.symm⟩
  obtain ⟨a0, x0, e0, hx0, hk0⟩ := hch.c0
  refine ⟨⟨hch.inn, ⟨a0, x0, by rw [List.getElem?_append_left (List.getElem?_eq_some_iff.1 e0).1]; exact e0, hx0, hk0⟩, fun i a' b h1 h2 => ?_, fun i a' b h1 h2 => ?_, by rw [List.length_append]; have := h.kl; simp; omega, hch.no5⟩, ho, hl⟩
  · rcases dn _ _ _ h2 with q | ⟨q, rfl⟩
    · have hl := (List.getElem?_eq_some_iff.1 q).1
      rw [List.getElem?_append_left (by omega)] at h1
      exact hch.cs i a' b h1 q
    · obtain rfl : i = p := by omega
      rw [List.getElem?_append_left (by omega), e] at h1
      injection h1 with h1
      subst h1
      exact ⟨y, hy, y1, y2, y3⟩
  · have hl := (List.getElem?_eq_some_iff.1 h2).1
    rcases dn _ _ _ h1 with q | ⟨q, rfl⟩
    · exact hch.ks i a' b q h2
    · exfalso
      have := h.kl
      omega
section
variable {w0 : World} {pb g bm bs : Nat}
def stepP (p0 : Int) (i : Nat) (r : List Nd × List UInt8 × List (Int × List UInt8)) : List Nd × List UInt8 × List (Int × List UInt8) :=
  ((derT (derT r.1 r.2.1 keyB).1 r.2.1 nextB).1, handleL (derT (derT r.1 r.2.1 keyB).1 r.2.1 nextB).2, r.2.2 ++ [(p0 + i, handleL (derT r.1 r.2.1 keyB).2)])
/-- Behind i steps of a chain of terms, in plain Lean. -/
def runP (p0 : Int) (T : List Nd) (cur : List UInt8) : Nat → List Nd × List UInt8 × List (Int × List UInt8)
  | 0 => (T, cur, [])
  | i + 1 => stepP p0 i (runP p0 T cur i)
theorem stepP_eq (p0 : Int) (i : Nat) (r : List Nd × List UInt8 × List (Int × List UInt8)) : (((nextD (symSui w0 pb g bm bs) r.1 r.2.1).1, (nextD (symSui w0 pb g bm bs) r.1 r.2.1).2, r.2.2 ++ [(p0 + i, keyD (symSui w0 pb g bm bs) r.1 r.2.1)]) : List Nd × List UInt8 × List (Int × List UInt8)) = stepP p0 i r := by
  unfold stepP
  rw [← keyS_b, ← nextS_b]
  rfl
theorem runT_sym (p0 : Int) (T : List Nd) (cur : List UInt8) : ∀ i, runT (symSui w0 pb g bm bs) p0 T cur i = runP p0 T cur i
  | 0 => rfl
  | i + 1 => (stepP_eq (w0 := w0) (pb := pb) (g := g) (bm := bm) (bs := bs) p0 i (runT (symSui w0 pb g bm bs) p0 T cur i)).trans (congrArg (stepP p0 i) (runT_sym p0 T cur i))
theorem keyD_sym (T : List Nd) (b : List UInt8) : keyD (symSui w0 pb g bm bs) T b = handleL (derT T b keyB).2 := by
  rw [← keyS_b]; rfl
end
/-- Behind i steps of a chain of terms. -/
theorem Cha.run {T : List Nd} {c k : List Nat} (h : Cha T c k) {p a : Nat} (hc : c.length = p + 1) (hk : p ≤ k.length) (e : c[p]? = some a) : ∀ i, T.length + 2 * i ≤ 980 →
    ∃ c' k', Cha (runP p T (handleL a) i).1 c' k' ∧ c'.length = p + i + 1 ∧ p + i ≤ k'.length ∧ (∃ a', c'[p + i]? = some a' ∧ (runP p T (handleL a) i).2.1 = handleL a') ∧ (∀ j : Nat, j < p → k'[j]? = k[j]?) ∧
      (∀ x ∈ (runP p T (handleL a) i).2.2, ∃ (j b : Nat), x.1 = (j : Int) ∧ p ≤ j ∧ j < p + i ∧ k'[j]? = some b ∧ x.2 = handleL b) ∧
      (runP p T (handleL a) i).2.2.map Prod.fst = (List.range i).map (fun j : Nat => (p : Int) + j) ∧ (runP p T (handleL a) i).1.length ≤ T.length + 2 * i
  | 0, _ => ⟨c, k, h, by omega, hk, ⟨a, e, rfl⟩, fun j _ => rfl, (fun x hx => by cases hx), rfl, by show T.length ≤ _; omega⟩
  | i + 1, hb => by
    obtain ⟨c1, k1, h1, hc1, hk1, ⟨a1, e1, hcur⟩, hj, hsk, hfst, hlen⟩ := Cha.run h hc hk e i (by omega)
    obtain ⟨T1, cu1, K1, hr⟩ : ∃ (T1 : List Nd) (cu1 : List UInt8) (K1 : List (Int × List UInt8)), runP p T (handleL a) i = (T1, cu1, K1) := ⟨_, _, _, rfl⟩
    rw [hr] at h1 hcur hsk hfst hlen
    simp only at h1 hcur hsk hfst hlen
    subst hcur
    have hl1 : T1.length ≤ 980 := by omega
    obtain ⟨h2, ho2, hl2, _⟩ := h1.key (by omega) (p := p + i) (by omega) hk1 e1
    obtain ⟨h3, ho3, hl3⟩ := h2.next (by omega) (p := p + i) (by omega) e1
    have hrun : runP p T (handleL a) (i + 1) = ((derT (derT T1 (handleL a1) keyB).1 (handleL a1) nextB).1, handleL (derT (derT T1 (handleL a1) keyB).1 (handleL a1) nextB).2, K1 ++ [((p : Int) + i, handleL (derT T1 (handleL a1) keyB).2)]) := by
      show stepP p i (runP p T (handleL a) i) = _
      rw [hr]
      rfl
    rw [hrun]
    refine ⟨_, _, h3, by rw [List.length_append]; simp; omega, by rw [List.length_append, List.length_take]; simp; omega, ⟨_, ?_, rfl⟩, fun j hjp => ?_, fun x hx => ?_, ?_, ?_⟩
    · rw [show p + (i + 1) = c1.length by omega, List.getElem?_append_right (Nat.le_refl _), Nat.sub_self]; rfl
    · rw [take_snoc_lt k1 _ _ hk1 j (by omega)]; exact hj j hjp
    · rcases List.mem_append.1 hx with hx | hx
      · obtain ⟨j, b, r1, r2, r3, r4, r5⟩ := hsk x hx
        exact ⟨j, b, r1, r2, by omega, by rw [take_snoc_lt k1 _ _ hk1 j (by omega)]; exact r4, r5⟩
      · rw [List.mem_singleton.1 hx]
        exact ⟨p + i, _, by simp, by omega, by omega, take_snoc_eq k1 _ _ hk1, rfl⟩
    · rw [List.map_append, hfst, List.range_succ, List.map_append]; rfl
    · show (derT (derT T1 (handleL a1) keyB).1 (handleL a1) nextB).1.length ≤ _
      omega
/-- A chain in the middle of the play: at gen p, with what was skipped; what was told. -/
structure ChS (T : List Nd) (p : Nat) (cur : List UInt8) (K : List (Int × List UInt8)) (told : List (List UInt8)) (c k : List Nat) : Prop where
  ch : Cha T c k
  cl : c.length = p + 1
  kl : p ≤ k.length
  cu : ∃ a, c[p]? = some a ∧ cur = handleL a
  sk : ∀ x ∈ K, ∃ (j a : Nat), x.1 = (j : Int) ∧ j < p ∧ k[j]? = some a ∧ x.2 = handleL a
  nd : (K.map Prod.fst).Nodup
  td : ∀ b ∈ told, ∃ (j a : Nat), j < p ∧ k[j]? = some a ∧ b = handleL a ∧ ∀ x ∈ K, x.1 ≠ (j : Int)
theorem ChS.start : ChS (atomT []).1 0 (handleL 1) [] [] [1] [] := by
  have hin : TIn (atomT []).1 := atomT_in TIn.nil (by decide)
  refine ⟨⟨hin, ⟨1, ⟨1, 0, 0, ByteArray.empty, 0⟩, rfl, ⟨by decide, by decide, rfl⟩, rfl⟩, fun i a b h1 h2 => ?_, fun i a b h1 h2 => ?_, by simp, fun x hx => ?_⟩, rfl, Nat.zero_le _, ⟨1, rfl, rfl⟩, (fun x hx => by cases hx), List.nodup_nil, fun b hb => by cases hb⟩
  · simp at h2
  · simp at h2
  · have : x = ⟨1, 0, 0, ByteArray.empty, 0⟩ := by simpa [atomT, atomsOf] using hx
    rw [this]
    decide
theorem ChS.keepK {T : List Nd} {p : Nat} {cur : List UInt8} {K : List (Int × List UInt8)} {told : List (List UInt8)} {c k : List Nat} (h : ChS T p cur K told c k) (i : Nat) (x : Int × List UInt8) (hx : K[i]? = some x) : ChS T p cur (K.eraseIdx i) (told ++ [x.2]) c k := by
  have hi := (List.getElem?_eq_some_iff.1 hx).1
  have hsub : (K.eraseIdx i).Sublist K := List.eraseIdx_sublist K i
  refine ⟨h.ch, h.cl, h.kl, h.cu, fun y hy => h.sk y (hsub.subset hy), h.nd.sublist (hsub.map _), fun b hb => ?_⟩
  rcases List.mem_append.1 hb with hb | hb
  · obtain ⟨j, a, h1, h2, h3, h4⟩ := h.td b hb
    exact ⟨j, a, h1, h2, h3, fun y hy => h4 y (hsub.subset hy)⟩
  · rw [List.mem_singleton.1 hb]
    obtain ⟨j, a, h1, h2, h3, h4⟩ := h.sk x (List.mem_of_getElem? hx)
    refine ⟨j, a, h2, h3, h4, fun y hy => ?_⟩
    rw [← h1]
    intro e
    obtain ⟨n, hn⟩ := List.getElem?_of_mem hy
    have hn' := (List.getElem?_eq_some_iff.1 hn).1
    have hnd := h.nd
    rw [List.getElem?_eraseIdx] at hn
    have : ∀ m, m ≠ i → K[m]? = some y → False := fun m hm hm2 => by
      have hml := (List.getElem?_eq_some_iff.1 hm2).1
      have e1 : (K.map Prod.fst)[m]? = (K.map Prod.fst)[i]? := by rw [List.getElem?_map, List.getElem?_map, hm2, hx, Option.map_some, Option.map_some, e]
      exact hm ((List.getElem?_inj (by rw [List.length_map]; exact hml) hnd).1 e1)
    split at hn
    · exact this n (by omega) hn
    · exact this (n + 1) (by omega) hn
theorem ChS.step {T : List Nd} {p : Nat} {cur : List UInt8} {K : List (Int × List UInt8)} {told : List (List UInt8)} {c k : List Nat} (h : ChS T p cur K told c k) (i n : Nat) (hb : T.length + 2 * (i + 1) ≤ 980) :
    ∃ c' k', ChS (runP p T cur (i + 1)).1 (p + i + 1) (runP p T cur (i + 1)).2.1 ((K ++ (runP p T cur i).2.2).drop n) (told ++ [handleL (derT (runP p T cur i).1 (runP p T cur i).2.1 keyB).2]) c' k' ∧ (runP p T cur (i + 1)).1.length ≤ T.length + 2 * (i + 1) := by
  obtain ⟨a, e, rfl⟩ := h.cu
  obtain ⟨c', k', h1, h2, h3, ⟨a', e', hcu⟩, hj, hsk, hfst, hlen⟩ := h.ch.run h.cl h.kl e (i + 1) hb
  obtain ⟨T1, cu1, K1, hr⟩ : ∃ (T1 : List Nd) (cu1 : List UInt8) (K1 : List (Int × List UInt8)), runP p T (handleL a) i = (T1, cu1, K1) := ⟨_, _, _, rfl⟩
  have hrun : (runP p T (handleL a) (i + 1)).2.2 = K1 ++ [((p : Int) + i, handleL (derT T1 cu1 keyB).2)] := by
    show (stepP p i (runP p T (handleL a) i)).2.2 = _
    rw [hr]
    rfl
  rw [hrun] at hsk hfst
  rw [hr]
  simp only
  have hold : ∀ y ∈ K1, ∃ (j b : Nat), y.1 = (j : Int) ∧ p ≤ j ∧ j < p + i + 1 ∧ k'[j]? = some b ∧ y.2 = handleL b := fun y hy => hsk y (List.mem_append_left _ hy)
  have hall : ((K ++ (K1 ++ [((p : Int) + i, handleL (derT T1 cu1 keyB).2)])).map Prod.fst).Nodup := by
    rw [List.map_append, hfst, List.nodup_append]
    refine ⟨h.nd, ?_, fun x hx y hy exy => ?_⟩
    · exact List.pairwise_map.2 (List.nodup_range.imp (fun {x y} hxy e => hxy (by omega)))
    · obtain ⟨z, hz, rfl⟩ := List.mem_map.1 hx
      obtain ⟨j, hj', rfl⟩ := List.mem_map.1 hy
      obtain ⟨j2, a2, q1, q2, _⟩ := h.sk z hz
      rw [q1] at exy
      omega
  have hall2 : ((K ++ K1) ++ [((p : Int) + i, handleL (derT T1 cu1 keyB).2)]).map Prod.fst = (K ++ (K1 ++ [((p : Int) + i, handleL (derT T1 cu1 keyB).2)])).map Prod.fst := by rw [List.append_assoc]
  rw [← hall2, List.map_append, List.nodup_append] at hall
  have hlast : ∀ y ∈ K ++ K1, y.1 ≠ (p : Int) + i := fun y hy => hall.2.2 y.1 (List.mem_map_of_mem hy) _ (by simp)
  refine ⟨c', k', ⟨h1, by omega, by omega, ⟨a', by rw [show p + i + 1 = p + (i + 1) by omega]; exact e', hcu⟩, fun y hy => ?_, hall.1.sublist ((List.drop_sublist _ _).map _), fun b hb => ?_⟩, hlen⟩
  · rcases List.mem_append.1 (List.mem_of_mem_drop hy) with hy | hy
    · obtain ⟨j, b, q1, q2, q3, q4⟩ := h.sk y hy
      exact ⟨j, b, q1, by omega, by rw [hj j q2]; exact q3, q4⟩
    · obtain ⟨j, b, q1, q2, q3, q4, q5⟩ := hold y hy
      exact ⟨j, b, q1, by omega, q4, q5⟩
  · rcases List.mem_append.1 hb with hb | hb
    · obtain ⟨j, a2, q1, q2, q3, q4⟩ := h.td b hb
      refine ⟨j, a2, by omega, by rw [hj j q1]; exact q2, q3, fun y hy => ?_⟩
      rcases List.mem_append.1 (List.mem_of_mem_drop hy) with hy | hy
      · exact q4 y hy
      · obtain ⟨j2, b2, r1, r2, _⟩ := hold y hy
        rw [r1]
        omega
    · rw [List.mem_singleton.1 hb]
      obtain ⟨j, b2, r1, r2, r3, r4, r5⟩ := hsk _ (List.mem_append_right _ (List.mem_singleton.2 rfl))
      simp only at r1 r5
      have : j = p + i := by omega
      subst this
      exact ⟨p + i, b2, by omega, r4, r5, fun y hy => by have := hlast y (List.mem_of_mem_drop hy); simpa using this⟩
end Go.Proofs.YtplddbaggbdbiaaDoor
