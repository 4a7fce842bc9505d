import Derived.Test.YtbmijjodpdbbmaaDoorObChN
import Derived.Test.YtbmijjodpdbbmaaDoorObChM
namespace Go.Proofs.YtbmijjodpdbbmaaDoor
open Go.RowKit
set_option linter.unusedVariables false

/-! ### RatchetOnce: the plain law -/
theorem idxP_spec (g : Int) (K : List (Int × List UInt8)) : (idxP g K = -1 ∧ ∀ x ∈ K, x.1 ≠ g) ∨ ∃ (k : Nat) (x : Int × List UInt8), idxP g K = k ∧ K[k]? = some x ∧ x.1 = g := by
  unfold idxP
  cases h : K.findIdx? (fun x => x.1 == g) with
  | none =>
    left
    refine ⟨rfl, fun x hx e => ?_⟩
    have := List.findIdx?_eq_none_iff.1 h x hx
    simp [e] at this
  | some k =>
    right
    rw [List.findIdx?_eq_some_iff_getElem] at h
    obtain ⟨hk, he, _⟩ := h
    exact ⟨k, K[k], rfl, List.getElem?_eq_getElem hk, by simpa using he⟩
theorem idxP_none {g : Int} {K : List (Int × List UInt8)} (h : ∀ x ∈ K, x.1 ≠ g) : idxP g K = -1 := by
  rcases idxP_spec g K with h1 | ⟨k, x, _, hx, e⟩
  · exact h1.1
  · exact absurd e (h x (List.mem_of_getElem? hx))
theorem chainL_add (c : List UInt8) (i : Nat) : ∀ j, chainL (chainL c i) j = chainL c (i + j)
  | 0 => rfl
  | j + 1 => by
    show deriveL (chainL (chainL c i) j) nextS = deriveL (chainL c (i + j)) nextS
    rw [chainL_add c i j]
theorem mem_skips {p : Int} {c : List UInt8} {k : Nat} {x : Int × List UInt8} (h : x ∈ skipsL p c k) : ∃ i, i < k ∧ x = (p + (i : Int), deriveL (chainL c i) keyS) := by
  unfold skipsL at h
  obtain ⟨i, hi, rfl⟩ := List.mem_map.1 h
  exact ⟨i, List.mem_range.1 hi, rfl⟩
theorem skips_apart (p : Int) (c : List UInt8) (k : Nat) : List.Pairwise (fun x y : Int × List UInt8 => x.1 ≠ y.1) (skipsL p c k) := by
  unfold skipsL
  rw [List.pairwise_map]
  exact List.Pairwise.imp (fun h e => by simp only at e; omega) List.pairwise_lt_range
/-- What holds of a chain behind keys that were told (T: their gens; K: what is skipped). -/
structure InvO (key : List UInt8) (p : Nat) (T : List Int) (K : List (Int × List UInt8)) : Prop where
  a : ∀ x ∈ K, ∃ j : Nat, x.1 = j ∧ j < p ∧ x.2 = deriveL (chainL key j) keyS
  b : List.Pairwise (fun x y : Int × List UInt8 => x.1 ≠ y.1) K
  c : ∀ t ∈ T, (0 ≤ t ∧ t < p) ∧ ∀ x ∈ K, x.1 ≠ t
theorem InvO.start (key : List UInt8) : InvO key 0 [] [] := ⟨fun x hx => (by cases hx), List.Pairwise.nil, fun t ht => (by cases ht)⟩
theorem erase_apart {K : List (Int × List UInt8)} (h : List.Pairwise (fun x y : Int × List UInt8 => x.1 ≠ y.1) K) {k : Nat} {x : Int × List UInt8} (hx : K[k]? = some x) : ∀ y ∈ K.eraseIdx k, y.1 ≠ x.1 := by
  have hk : k < K.length := (List.getElem?_eq_some_iff.1 hx).1
  rw [List.getElem?_eq_getElem hk] at hx
  injection hx with hx
  have e : K = K.take k ++ x :: K.drop (k + 1) := by
    rw [← hx, ← List.drop_eq_getElem_cons hk, List.take_append_drop]
  rw [List.eraseIdx_eq_take_drop_succ]
  rw [e] at h
  have h1 := List.pairwise_append.1 h
  intro y hy
  rcases List.mem_append.1 hy with hy | hy
  · exact h1.2.2 y hy x List.mem_cons_self
  · exact fun e => (List.pairwise_cons.1 h1.2.1).1 y hy e.symm
theorem InvO.kept {key : List UInt8} {p : Nat} {T : List Int} {K : List (Int × List UInt8)} (h : InvO key p T K) {k : Nat} {x : Int × List UInt8} (hx : K[k]? = some x) : InvO key p (T ++ [x.1]) (K.eraseIdx k) := by
  have hs := List.eraseIdx_sublist K k
  refine ⟨fun y hy => h.a y (hs.subset hy), h.b.sublist hs, fun t ht => ?_⟩
  rcases List.mem_append.1 ht with ht | ht
  · exact ⟨(h.c t ht).1, fun y hy => (h.c t ht).2 y (hs.subset hy)⟩
  · obtain rfl : t = x.1 := by simpa using ht
    obtain ⟨j, e, hj, _⟩ := h.a x (List.mem_of_getElem? hx)
    exact ⟨by rw [e]; omega, erase_apart h.b hx⟩
theorem InvO.step {key : List UInt8} {p : Nat} {T : List Int} {K : List (Int × List UInt8)} (h : InvO key p T K) (j d : Nat) :
    InvO key (p + j + 1) (T ++ [((p + j : Nat) : Int)]) ((K ++ skipsL p (chainL key p) j).drop d) ∧ ∀ x ∈ (K ++ skipsL p (chainL key p) j).drop d, x.1 ≠ ((p + j : Nat) : Int) := by
  have hlt : ∀ x ∈ (K ++ skipsL p (chainL key p) j).drop d, x.1 ≠ ((p + j : Nat) : Int) := by
    intro x hx
    rcases List.mem_append.1 (List.mem_of_mem_drop hx) with hx | hx
    · obtain ⟨i, e, hi, _⟩ := h.a x hx
      rw [e]; omega
    · obtain ⟨i, hi, rfl⟩ := mem_skips hx
      simp only; omega
  refine ⟨⟨fun x hx => ?_, ?_, fun t ht => ?_⟩, hlt⟩
  · rcases List.mem_append.1 (List.mem_of_mem_drop hx) with hx | hx
    · obtain ⟨i, e, hi, e2⟩ := h.a x hx
      exact ⟨i, e, by omega, e2⟩
    · obtain ⟨i, hi, rfl⟩ := mem_skips hx
      exact ⟨p + i, by simp, by omega, by simp only [chainL_add]⟩
  · refine List.Pairwise.sublist (List.drop_sublist _ _) (List.pairwise_append.2 ⟨h.b, skips_apart _ _ _, fun x hx y hy => ?_⟩)
    obtain ⟨i, e, hi, _⟩ := h.a x hx
    obtain ⟨i', hi', rfl⟩ := mem_skips hy
    simp only; omega
  · rcases List.mem_append.1 ht with ht | ht
    · refine ⟨by have := (h.c t ht).1; omega, fun x hx => ?_⟩
      rcases List.mem_append.1 (List.mem_of_mem_drop hx) with hx | hx
      · exact (h.c t ht).2 x hx
      · obtain ⟨i, hi, rfl⟩ := mem_skips hx
        have := (h.c t ht).1
        simp only; omega
    · obtain rfl : t = ((p + j : Nat) : Int) := by simpa using ht
      exact ⟨by omega, hlt⟩
def hasP (p : Int) (K : List (Int × List UInt8)) (g : Int) : Bool := decide (p ≤ g) || decide (0 ≤ idxP g K)
theorem hasP_no {p g : Int} {K : List (Int × List UInt8)} (h : g < p) (hk : ∀ x ∈ K, x.1 ≠ g) : hasP p K g = false := by
  unfold hasP
  rw [idxP_none hk, decide_eq_false (by omega)]
  rfl

/-! ### RatchetOnce: what ratchet.At answers -/
def RetOnce (w : World) (win : Int) (key : List UInt8) (p : Nat) (T : List Int) (K : List (Int × List UInt8)) (g : Int) (e : Ending) (w' : World) : Prop :=
  (∃ f : Int, (f = 9 ∨ f = 10) ∧ RetNone w f e w' ∧ (decide (f = 9) = !hasP p K g) ∧ (f ≠ 9 → T.contains g = false)) ∨
  (∃ (p' : Nat) (K' : List (Int × List UInt8)), RetAt w p' (chainL key p') (deriveL (chainL key g.toNat) keyS) K' e w' ∧ hasP p K g = true ∧ T.contains g = false ∧ hasP p' K' g = false ∧ (K'.length : Int) ≤ win ∧ InvO key p' (T ++ [g]) K' ∧ p' ≤ 41)
theorem rows_32 {key : List UInt8} {p : Nat} {T : List Int} {w : World} {A : Option Addr} {n c : Nat} {M : List Wr} (hM : Wrs w A n c M) (hi : InvO key p T (M.map Wr.kk)) : ∀ x ∈ M, x.r.n ≤ 20000 := by
  intro x hx
  obtain ⟨j, _, _, e⟩ := hi.a x.kk (List.mem_map_of_mem hx)
  have h1 := Bs.len (hM.2.2 x hx).1
  have h2 : x.r.l = deriveL (chainL key j) keyS := e
  rw [h2, deriveL_len] at h1
  omega
theorem atOnce_any (gs : Nat) (key : List UInt8) (p : Nat) (A B : Option Addr) (n c d : Nat) (M : List Wr) (T : List Int) (g win : Int) (w : World) (hR : RealS w gs) (hcur : Bs w A n c (chainL key p)) (hn : n ≤ 50000) (hM : Wrs w B M.length d M) (hi : InvO key p T (M.map Wr.kk)) (hp : p ≤ 41) (hg0 : 0 ≤ g) (hg : g ≤ 40) (hw1 : 1 ≤ win) (hw2 : win ≤ 8) (hwin : (M.length : Int) ≤ win) (hK : ShaK w) :
    Calls Tryd.prog 21 #[.pointer (some ⟨gs, 0, none⟩), .agg #[.int .i64 (p : Int), .slice A n c, .slice B M.length d], .int .i64 g, .int .i64 win] w (RetOnce w win key p T (M.map Wr.kk) g) := by
  have hrow := rows_32 hM hi
  have hTc : ¬ g < p → T.contains g = false := fun h => by
    rw [List.contains_eq_any_beq, List.any_eq_false]
    intro t ht
    have := (hi.c t ht).1
    simp; omega
  by_cases h1 : g < p
  · rcases idxP_spec g (M.map Wr.kk) with ⟨h2, h3⟩ | ⟨k, x, h2, h3, h4⟩
    · refine (atUsed_any _ p A B n c M.length d M g win w hM (by omega) hg0 (by omega) hw1 hw2 h1 (by rw [idxK_kk, h2]; decide)).mono fun e w' h => .inl ⟨9, .inl rfl, h, ?_, fun h => absurd rfl h⟩
      rw [hasP_no h1 h3]
      rfl
    · have h5 : ∃ y, M[k]? = some y ∧ y.kk = x := by
        rw [List.getElem?_map] at h3
        cases hy : M[k]? with
        | none => rw [hy] at h3; cases h3
        | some y => rw [hy] at h3; exact ⟨y, rfl, Option.some.inj h3⟩
      obtain ⟨y, hy, hyx⟩ := h5
      have hxm := List.mem_of_getElem? h3
      obtain ⟨j, hj1, hj2, hj3⟩ := hi.a x hxm
      refine (atKept_any _ p A B n c M.length d (chainL key p) M g win k y w hcur hn hM (by omega) hrow (by omega) hg0 (by omega) hw1 hw2 h1 hy (by rw [idxK_kk, h2])).mono fun e w' h => .inr ⟨p, (M.map Wr.kk).eraseIdx k, ?_, ?_, ?_, ?_, ?_, ?_, hp⟩
      · have hyl : y.r.l = deriveL (chainL key g.toNat) keyS := by
          have e1 : y.r.l = x.2 := by rw [← hyx]; rfl
          rw [e1, hj3, show g.toNat = j by omega]
        rw [hyl] at h
        exact h
      · unfold hasP
        rw [h2, decide_eq_true (show (0 : Int) ≤ (k : Int) by omega), Bool.or_true]
      · rw [List.contains_eq_any_beq, List.any_eq_false]
        intro t ht hb
        have := (hi.c t ht).2 x hxm
        simp at hb
        omega
      · exact hasP_no h1 (by rw [← h4]; exact erase_apart hi.b h3)
      · have := (List.eraseIdx_sublist (M.map Wr.kk) k).length_le
        rw [List.length_map] at this
        omega
      · rw [← h4]; exact hi.kept h3
  · by_cases h2 : win < g - p
    · refine (atWindow_any _ p A B n c M.length d M g win w hM (by omega) (by omega) hw1 hw2 (by omega) h2).mono fun e w' h => .inl ⟨10, .inr rfl, h, ?_, fun _ => hTc h1⟩
      unfold hasP
      rw [decide_eq_true (show (p : Int) ≤ g by omega)]
      rfl
    · obtain ⟨j, hj⟩ : ∃ j : Nat, g = (p : Int) + j := ⟨(g - p).toNat, by omega⟩
      have hs := hi.step j (M.length + j - win.toNat)
      have hgn : g.toNat = p + j := by omega
      have hgj : ((p + j : Nat) : Int) = g := by omega
      refine (atStep_any gs p A B n c M.length d (chainL key p) M g win j w hR hcur hn hM (by omega) hrow (by omega) hj (by omega) hw1 hw2 (by omega) hK).mono fun e w' h => .inr ⟨p + j + 1, (M.map Wr.kk ++ skipsL p (chainL key p) j).drop (M.length + j - win.toNat), ?_, ?_, hTc h1, ?_, ?_, ?_, by omega⟩
      · rw [chainL_add, chainL_add] at h
        rw [hgn]
        rw [show ((p + j + 1 : Nat) : Int) = g + 1 by omega]
        exact h
      · unfold hasP
        rw [decide_eq_true (show (p : Int) ≤ g by omega)]
        rfl
      · exact hasP_no (by omega) (by rw [← hgj]; exact hs.2)
      · rw [List.length_drop, List.length_append, List.length_map, skipsL_len]
        omega
      · rw [← hgj]; exact hs.1
end Go.Proofs.YtbmijjodpdbbmaaDoor
