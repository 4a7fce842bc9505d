import Derived.Test.YtbmijjodpdbbmaaObWholeW
import Derived.Test.YtbmijjodpdbbmaaObMapI
namespace Go.Proofs.Ytbmijjodpdbbmaa
open Go.RowKit Go.Maps
set_option linter.unusedVariables false

/-! ### the slots below a page, one after the other; the pages above slots: plain -/
def undR (x y p : Nat) : List Int := ((List.range (x ^ y)).filter fun s => decide (ndN x y + s = p) || (upL x ((ndN x y + s - 1) / x)).contains p).map fun (s : Nat) => (s : Int)
theorem und_run : ((List.range 5).all fun x => (List.range 4).all fun y => (List.range 85).all fun p => !(decide (2 ≤ x) && decide (1 ≤ y) && decide (p < pgN x y)) || (undR x y p == underN x y p)) = true := by decide +kernel
theorem und_all {x y p : Nat} (h1 : 2 ≤ x) (h2 : x ≤ 4) (h3 : 1 ≤ y) (h4 : y ≤ 3) (h5 : p < pgN x y) : undR x y p = underN x y p := by
  have h6 := pgN_lt h1 h2 h3 h4
  have h := List.all_eq_true.1 (List.all_eq_true.1 (List.all_eq_true.1 und_run x (List.mem_range.2 (by omega))) y (List.mem_range.2 (by omega))) p (List.mem_range.2 (by omega))
  simpa [h1, h3, h5] using h
theorem upF_le (x : Nat) : ∀ f p q, q ∈ upF x f p → q ≤ p
  | 0, p, q, h => by cases h
  | f + 1, p, q, h => by
    unfold upF at h
    rcases List.mem_cons.1 h with rfl | h
    · exact Nat.le_refl _
    · split at h
      · cases h
      · have h1 := upF_le x f _ q h
        have : (p - 1) / x ≤ p - 1 := Nat.div_le_self _ _
        omega
theorem upL_mem_le {x p q : Nat} (h : q ∈ upL x p) : q ≤ p := upF_le x _ p q h
theorem ndN_pos {x y : Nat} (hx : 1 ≤ x) (hy : 1 ≤ y) : 1 ≤ ndN x y := by
  obtain ⟨k, rfl⟩ : ∃ k, y = k + 1 := ⟨y - 1, by omega⟩
  unfold ndN
  have := Nat.pow_pos (n := k) (show 0 < x by omega)
  omega
section
variable {a d l : Int}
theorem right_of_leaf {s : Int} (h0 : 0 ≤ s) (h : s < leavesI a d l) : rightB a d l = true := by
  cases hr : rightB a d l
  · rw [leavesI_no hr] at h; omega
  · rfl
/-- The way up from a slot's leaf. -/
theorem way_of {s : Int} (h0 : 0 ≤ s) (h : s < leavesI a d l) : ∃ x y n : Nat, a = x ∧ d = y ∧ s = n ∧ 2 ≤ x ∧ x ≤ 4 ∧ 1 ≤ y ∧ y ≤ 3 ∧ rightB a d l = true ∧ n < x ^ y ∧ leafI a d l s = ((ndN x y + n : Nat) : Int) ∧ upI a d l (leafI a d l s) = (upL x (ndN x y + n)).map (fun (q : Nat) => (q : Int)) ∧
    pathI a d l s = ((upL x ((ndN x y + n - 1) / x)).map (fun (q : Nat) => (q : Int))).reverse ∧ upL x (ndN x y + n) = (ndN x y + n) :: upL x ((ndN x y + n - 1) / x) := by
  have hr := right_of_leaf h0 h
  obtain ⟨x, y, rfl, rfl, hx1, hx2, hy1, hy2⟩ := rightB_ok hr
  obtain ⟨n, rfl⟩ := Int.eq_ofNat_of_zero_le h0
  have hl := h
  rw [leavesI_of hr rfl rfl] at hl
  have hp := ndN_pos (show 1 ≤ x by omega) hy1
  have e1 : leafI (x : Int) y l n = ((ndN x y + n : Nat) : Int) := by unfold leafI; rw [if_pos ⟨h0, h⟩, nodesI_of hr rfl rfl]; simp
  have hpg : ((ndN x y + n : Nat) : Int) < nodesI (x : Int) y l + leavesI (x : Int) y l := by rw [nodesI_of hr rfl rfl, leavesI_of hr rfl rfl]; omega
  have hdv : (ndN x y + n - 1) / x ≤ ndN x y + n - 1 := Nat.div_le_self _ _
  have e2 : parentI (x : Int) y l ((ndN x y + n : Nat) : Int) = (((ndN x y + n - 1) / x : Nat) : Int) := by
    unfold parentI
    rw [if_pos ⟨by omega, hpg⟩]
    have : ((ndN x y + n : Nat) : Int) - 1 = ((ndN x y + n - 1 : Nat) : Int) := by omega
    rw [this]; exact (Int.natCast_ediv _ _).symm
  refine ⟨x, y, n, rfl, rfl, rfl, hx1, hx2, hy1, hy2, hr, by omega, e1, ?_, ?_, upL_pos x _ (by omega)⟩
  · rw [e1]; unfold upI; rw [if_pos (thereB_yes ⟨by omega, hpg⟩), Int.toNat_natCast, Int.toNat_natCast]
  · unfold pathI
    rw [e1, if_neg (by omega), e2]
    clear e2
    generalize (ndN x y + n - 1) / x = q at *
    unfold upI
    rw [if_pos (thereB_yes ⟨by omega, by omega⟩), Int.toNat_natCast, Int.toNat_natCast]
def undI (a d l p : Int) : List Int := ((List.range (leavesI a d l).toNat).filter fun (s : Nat) => (leafI a d l s == p) || (pathI a d l s).contains p).map fun (s : Nat) => (s : Int)
theorem mem_cast (L : List Nat) (p : Int) : p ∈ L.map (fun (q : Nat) => (q : Int)) ↔ 0 ≤ p ∧ p.toNat ∈ L := by
  constructor
  · intro h
    obtain ⟨q, hq, rfl⟩ := List.mem_map.1 h
    exact ⟨by omega, by simpa using hq⟩
  · rintro ⟨h0, h⟩
    exact List.mem_map.2 ⟨p.toNat, h, by omega⟩
/-- On the way up from a slot's leaf, by leaf and path. -/
theorem way_mem {s p : Int} (h0 : 0 ≤ s) (h : s < leavesI a d l) : p ∈ upI a d l (leafI a d l s) ↔ (leafI a d l s = p ∨ p ∈ pathI a d l s) := by
  obtain ⟨x, y, n, rfl, rfl, rfl, hx1, hx2, hy1, hy2, hr, hn, e1, e2, e3, e4⟩ := way_of h0 h
  rw [e2, e3, e1, e4, List.map_cons, List.mem_cons, List.mem_reverse]
  constructor
  · rintro (h | h)
    · exact .inl h.symm
    · exact .inr h
  · rintro (h | h)
    · exact .inl h.symm
    · exact .inr h
theorem way_in {s p : Int} (h0 : 0 ≤ s) (h : s < leavesI a d l) (hp : p ∈ upI a d l (leafI a d l s)) : 0 ≤ p ∧ p < nodesI a d l + leavesI a d l := by
  obtain ⟨x, y, n, rfl, rfl, rfl, hx1, hx2, hy1, hy2, hr, hn, e1, e2, e3, e4⟩ := way_of h0 h
  rw [e2, mem_cast] at hp
  have := upL_mem_le hp.2
  rw [nodesI_of hr rfl rfl, leavesI_of hr rfl rfl]
  omega
theorem undI_mem (s p : Int) : s ∈ undI a d l p ↔ (0 ≤ s ∧ s < leavesI a d l) ∧ p ∈ upI a d l (leafI a d l s) := by
  unfold undI
  rw [mem_cast, List.mem_filter, List.mem_range]
  constructor
  · rintro ⟨h0, h1, h2⟩
    have e : ((s.toNat : Nat) : Int) = s := by omega
    rw [e] at h2
    have hs : s < leavesI a d l := by omega
    refine ⟨⟨h0, hs⟩, (way_mem h0 hs).2 ?_⟩
    simpa using h2
  · rintro ⟨⟨h0, h1⟩, h2⟩
    have e : ((s.toNat : Nat) : Int) = s := by omega
    refine ⟨h0, by omega, ?_⟩
    rw [e]
    have := (way_mem h0 h1).1 h2
    simpa using this
theorem undI_eq (p : Int) : undI a d l p = underI a d l p := by
  by_cases h : 0 ≤ p ∧ p < nodesI a d l + leavesI a d l
  · have hr := right_of_pages h.1 h.2
    obtain ⟨x, y, rfl, rfl, hx1, hx2, hy1, hy2⟩ := rightB_ok hr
    obtain ⟨q, rfl⟩ := Int.eq_ofNat_of_zero_le h.1
    rw [underI_yes (thereB_yes h)]
    simp only [Int.toNat_natCast]
    rw [← und_all hx1 hx2 hy1 hy2 (page_lt hr h.2)]
    unfold undI undR
    rw [leavesI_of hr rfl rfl, Int.toNat_natCast]
    congr 1
    apply List.filter_congr
    intro s hs
    have hs' := List.mem_range.1 hs
    have h0 : (0 : Int) ≤ s := by omega
    have h1 : (s : Int) < leavesI (x : Int) y l := by rw [leavesI_of hr rfl rfl]; omega
    obtain ⟨x', y', n, ex, ey, en, _, _, _, _, _, _, e1, e2, e3, e4⟩ := way_of h0 h1
    obtain rfl : x = x' := by omega
    obtain rfl : y = y' := by omega
    obtain rfl : s = n := by omega
    rw [e1, e3]
    congr 1
    · rw [Bool.eq_iff_iff, decide_eq_true_iff, beq_iff_eq]; omega
    · rw [Bool.eq_iff_iff, List.contains_iff_mem, List.contains_iff_mem, List.mem_reverse, mem_cast]; simp
  · rw [underI_no (thereB_no h)]
    apply List.eq_nil_iff_forall_not_mem.2
    intro s hs
    obtain ⟨⟨h0, h1⟩, h2⟩ := (undI_mem s p).1 hs
    exact h (way_in h0 h1 h2)
theorem pages_nn : 0 ≤ pagesI a d l := by have := nodes_le a d l; have := leaves_le a d l; unfold pagesI; omega
def touR (a d l : Int) (S : List Int) (k : Nat) : List Int := ((List.range k).filter fun (p : Nat) => (underI a d l p).any fun u => S.contains u).map fun (p : Nat) => (p : Int)
theorem touR_snoc (S : List Int) (k : Nat) : touR a d l S (k + 1) = touR a d l S k ++ if (underI a d l k).any (fun u => S.contains u) then [(k : Int)] else [] := by
  unfold touR
  rw [List.range_succ, List.filter_append, List.map_append]
  congr 1
  cases h : (underI a d l k).any (fun u => S.contains u)
  · simp only [List.filter_cons, h, List.filter_nil]; rfl
  · simp only [List.filter_cons, h, List.filter_nil]; rfl
theorem touR_len (S : List Int) (k : Nat) : (touR a d l S k).length ≤ k := by
  unfold touR
  rw [List.length_map]
  exact Nat.le_trans (List.length_filter_le _ _) (by simp)
theorem upI_none {p : Int} (h : p < 0) : upI a d l p = [] := by unfold upI; rw [if_neg (by rw [thereB_no (by omega)]; decide)]
theorem tou_eq (S : List Int) : sortU (S.flatMap fun s => upI a d l (leafI a d l s)) = touR a d l S (pagesI a d l).toNat := by
  refine up_uniq (sortU_up _) ?_ (fun p => ?_)
  · unfold touR
    rw [List.pairwise_map]
    exact (List.pairwise_lt_range.filter _).imp (fun {x y} h => by omega)
  · rw [sortU_mem]
    unfold touR
    rw [mem_cast, List.mem_filter, List.mem_range, List.mem_flatMap, List.any_eq_true]
    have hpg := pagesI_eq a d l
    constructor
    · rintro ⟨s, hs, hp⟩
      by_cases h : 0 ≤ s ∧ s < leavesI a d l
      · have hin := way_in h.1 h.2 hp
        have e : ((p.toNat : Nat) : Int) = p := by omega
        refine ⟨hin.1, by omega, s, ?_, List.contains_iff_mem.2 hs⟩
        rw [e, ← undI_eq]
        exact (undI_mem s p).2 ⟨h, hp⟩
      · have : leafI a d l s = -1 := by unfold leafI; rw [if_neg h]
        rw [this, upI_none (by omega)] at hp
        cases hp
    · rintro ⟨h0, h1, s, hs, hS⟩
      have e : ((p.toNat : Nat) : Int) = p := by omega
      rw [e, ← undI_eq] at hs
      exact ⟨s, List.contains_iff_mem.1 hS, ((undI_mem s p).1 hs).2⟩
end
end Go.Proofs.Ytbmijjodpdbbmaa
