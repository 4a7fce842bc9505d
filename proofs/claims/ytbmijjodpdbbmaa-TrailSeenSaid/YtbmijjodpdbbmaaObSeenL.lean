import Derived.Test.YtbmijjodpdbbmaaObDelG
namespace Go.Proofs.Ytbmijjodpdbbmaa
open Go.RowKit Go.Maps
set_option linter.unusedVariables false

/-! ### what was seen: plain -/
theorem foldPut_at (x : Int) (z : DataW Value) : ∀ (l : List (Int × Value)) (D : DataW Value), IsMap D →
    ((l.map fun p => (Lit.int .i64 p.1, DataW.held p.2)).foldl (fun D p => D.put p.1 p.2) D).atKey (.int .i64 x) z = match (l.filter fun p => p.1 == x).getLast? with | some p => .held p.2 | none => D.atKey (.int .i64 x) z
  | [], D, _ => rfl
  | p :: l, D, hD => by
    rw [List.map_cons, List.foldl_cons, foldPut_at x z l _ (hD.put _ _), List.filter_cons]
    by_cases hp : p.1 = x
    · rw [if_pos (by simpa using hp), List.getLast?_cons]
      cases h : (l.filter fun p => p.1 == x).getLast? with
      | none => simp only [Option.getD_none]; rw [hp]; exact atKey_put_same hD (show WideAt.IsKeyLit (Lit.int .i64 x) from trivial) _ _
      | some q => rfl
    · rw [if_neg (by simpa using hp)]
      cases h : (l.filter fun p => p.1 == x).getLast? with
      | none => exact atKey_put_other (by intro e; injection e with _ e; exact hp e.symm) _ _
      | some q => rfl
def lastB (L : List Wr) (z : Int) : List UInt8 := (ofL L z).getLast?.getD []
theorem last_look (L : List Wr) (z : Int) (zd : DataW Value) (hz : z ∈ L.map Wr.p) : ∃ x ∈ L, x.p = z ∧ x.r.l = lastB L z ∧ (dOf (lastL L)).atKey (.int .i64 z) zd = .held x.v := by
  have hne : (L.filter fun x => x.p == z) ≠ [] := by
    obtain ⟨x, hx, e⟩ := List.mem_map.1 hz
    intro h
    have : x ∈ L.filter fun x => x.p == z := List.mem_filter.2 ⟨hx, by simpa using e⟩
    rw [h] at this
    cases this
  have hl := List.getLast?_eq_some_getLast hne
  have hm := List.mem_filter.1 (List.getLast_mem hne)
  refine ⟨_, hm.1, by simpa using hm.2, ?_, ?_⟩
  · unfold lastB ofL
    rw [List.getLast?_map, hl]
    rfl
  · unfold dOf
    rw [foldPut_at z zd _ _ isMap_empty]
    have e : (lastL L).filter (fun p => p.1 == z) = (L.filter fun x => x.p == z).map fun x => (x.p, x.v) := by
      unfold lastL
      rw [List.filter_map]
      rfl
    rw [e, List.getLast?_map, hl]
    rfl
def covT (H : List Int) (L : List Wr) (S : List Int) : List (Int × List UInt8) := (S.filter fun z => H.contains z).map fun z => (z, lastB L z)
def seenK (H : List Int) (L : List Wr) : List (Int × List UInt8) := (keepW H L).map Wr.k ++ covT H L (sortU (L.map Wr.p))
theorem covT_snoc (H : List Int) (L : List Wr) (S : List Int) (k : Nat) (hk : k < S.length) : covT H L (S.take (k + 1)) = covT H L (S.take k) ++ if H.contains (iAt S k) then [(iAt S k, lastB L (iAt S k))] else [] := by
  have hg : iAt S k = S[k] := by unfold iAt; rw [List.getD_eq_getElem?_getD, List.getElem?_eq_getElem hk]; rfl
  rw [List.take_succ_eq_append_getElem hk, ← hg]
  unfold covT
  rw [List.filter_append, List.map_append]
  congr 1
  cases h : H.contains (iAt S k)
  · rw [List.filter_cons_of_neg (by rw [h]; decide)]; rfl
  · rw [List.filter_cons_of_pos h]; rfl
theorem covT_len (H : List Int) (L : List Wr) (S : List Int) : (covT H L S).length ≤ S.length := by
  unfold covT
  rw [List.length_map]
  exact List.length_filter_le _ _
def hidW (H : List Int) (L : List Wr) : List Wr := L.filter fun x => hid1 H x
theorem places_hid (H : List Int) (L : List Wr) : sortU ((hidW H L).map Wr.p) = (sortU (L.map Wr.p)).filter fun z => H.contains z := by
  refine up_uniq (sortU_up _) ((sortU_up _).filter _) (fun z => ?_)
  rw [sortU_mem, List.mem_filter, sortU_mem]
  unfold hidW
  constructor
  · intro h
    obtain ⟨x, hx, rfl⟩ := List.mem_map.1 h
    have := List.mem_filter.1 hx
    exact ⟨List.mem_map_of_mem this.1, this.2⟩
  · rintro ⟨h, hc⟩
    obtain ⟨x, hx, rfl⟩ := List.mem_map.1 h
    exact List.mem_map_of_mem (List.mem_filter.2 ⟨hx, hc⟩)
theorem ofL_hid (H : List Int) (L : List Wr) (z : Int) (h : H.contains z = true) : ofL (hidW H L) z = ofL L z := by
  unfold ofL hidW
  rw [List.filter_filter]
  congr 1
  apply List.filter_congr
  intro x _
  by_cases hx : x.p = z
  · have : hid1 H x = true := by unfold hid1; rw [hx]; exact h
    rw [this, Bool.and_true]
  · rw [show (x.p == z) = false by simpa using hx, Bool.false_and]
end Go.Proofs.Ytbmijjodpdbbmaa
