/- Own texts of this claim, one behind the other. No condition. -/
import Derived.Test.YtplddbaggbdbiaaDoorObPkAA
import Derived.Maps.Own
import Derived.Maps.Views
import Derived.Lib.SlKeysI
import Derived.Lib.SlMapMerge

namespace Go.Proofs.YtplddbaggbdbiaaDoor
open Go.RowKit Go.Maps
set_option linter.unusedVariables false

/-! ### a map with ints as keys: what stands in it is told value for value -/
def Rv (v : Value) : Option (DataW Value × List MemPlace) := some (.held v, [])
def dOf (l : List (Int × Value)) : DataW Value := (l.map fun p => (Lit.int .i64 p.1, DataW.held p.2)).foldl (fun D p => D.put p.1 p.2) (.map [])
theorem dOf_snoc (l : List (Int × Value)) (x : Int) (v : Value) : dOf (l ++ [(x, v)]) = (dOf l).put (.int .i64 x) (.held v) := by simp [dOf]
theorem dOf_has (l : List (Int × Value)) (x : Int) : has (dOf l) (.int .i64 x) = (l.map Prod.fst).contains x := by
  unfold dOf
  rw [has_foldPut _ _ _ isMap_empty (by intro p hp; obtain ⟨q, _, rfl⟩ := List.mem_map.1 hp; exact trivial)]
  have : has (DataW.map ([] : List (Lit × DataW Value))) (.int .i64 x) = false := rfl
  rw [this, Bool.false_or, List.any_map]
  induction l with
  | nil => rfl
  | cons p l ih =>
    simp only [List.any_cons, List.map_cons, List.contains_cons]
    rw [ih]
    congr 1
    refine Bool.eq_iff_iff.2 ?_
    show decide (IntKind.i64 = IntKind.i64 ∧ p.1 = x) = true ↔ (x == p.1) = true
    rw [decide_eq_true_iff, beq_iff_eq]
    exact ⟨fun h => h.2.symm, fun h => ⟨rfl, h.symm⟩⟩

/-! ### numbers in order, each once -/
def insU (x : Int) : List Int → List Int
  | [] => [x]
  | y :: t => if y < x then y :: insU x t else if y = x then y :: t else x :: y :: t
def sortU (l : List Int) : List Int := l.foldl (fun a x => insU x a) []
theorem insU_mem (x z : Int) : ∀ l, z ∈ insU x l ↔ z = x ∨ z ∈ l
  | [] => by simp [insU]
  | y :: t => by
    unfold insU
    split
    · rw [List.mem_cons, insU_mem x z t, List.mem_cons]; constructor <;> (intro h; rcases h with h | h | h <;> simp [h])
    · split
      · rename_i h; subst h; simp
      · simp
theorem insU_up (x : Int) : ∀ l, l.Pairwise (· < ·) → (insU x l).Pairwise (· < ·)
  | [], _ => by simp [insU]
  | y :: t, h => by
    have ht := List.pairwise_cons.1 h
    unfold insU
    split
    · rename_i hy
      refine List.pairwise_cons.2 ⟨fun z hz => ?_, insU_up x t ht.2⟩
      rcases (insU_mem x z t).1 hz with rfl | hz
      · exact hy
      · exact ht.1 z hz
    · split
      · exact h
      · rename_i h1 h2
        refine List.pairwise_cons.2 ⟨fun z hz => ?_, h⟩
        rcases List.mem_cons.1 hz with rfl | hz
        · omega
        · have := ht.1 z hz; omega
theorem sortU_snoc (l : List Int) (x : Int) : sortU (l ++ [x]) = insU x (sortU l) := by simp [sortU]
theorem foldU (l : List Int) : ∀ a : List Int, a.Pairwise (· < ·) → (l.foldl (fun a x => insU x a) a).Pairwise (· < ·) ∧ ∀ z, z ∈ l.foldl (fun a x => insU x a) a ↔ z ∈ a ∨ z ∈ l := by
  induction l with
  | nil => intro a h; exact ⟨h, fun z => by simp⟩
  | cons x l ih =>
    intro a h
    have := ih (insU x a) (insU_up x a h)
    refine ⟨this.1, fun z => ?_⟩
    rw [List.foldl_cons, this.2 z, insU_mem, List.mem_cons]
    constructor
    · rintro ((h | h) | h) <;> simp [h]
    · rintro (h | h | h) <;> simp [h]
theorem sortU_up (l : List Int) : (sortU l).Pairwise (· < ·) := (foldU l [] List.Pairwise.nil).1
theorem sortU_mem (l : List Int) (z : Int) : z ∈ sortU l ↔ z ∈ l := by unfold sortU; rw [(foldU l [] List.Pairwise.nil).2 z]; simp
theorem up_uniq {a b : List Int} (ha : a.Pairwise (· < ·)) (hb : b.Pairwise (· < ·)) (h : ∀ z, z ∈ a ↔ z ∈ b) : a = b := by
  have na : a.Nodup := ha.imp (fun {x y} h => by omega)
  have nb : b.Nodup := hb.imp (fun {x y} h => by omega)
  exact List.Perm.eq_of_pairwise (le := (· < ·)) (fun x y _ _ h1 h2 => by omega) ha hb ((List.perm_ext_iff_of_nodup na nb).2 h)
theorem sorted_uniq {ss l : List Int} (hn : ss.Nodup) (h : ∀ z, z ∈ ss ↔ z ∈ l) : ss.mergeSort (fun x y => decide (x ≤ y)) = sortU l := by
  have tr : ∀ a b c : Int, decide (a ≤ b) = true → decide (b ≤ c) = true → decide (a ≤ c) = true := fun a b c h1 h2 => by simp at *; omega
  have tot : ∀ a b : Int, (decide (a ≤ b) || decide (b ≤ a)) = true := fun a b => by simp; omega
  have hp := List.mergeSort_perm ss (fun x y => decide (x ≤ y))
  have hm : (ss.mergeSort (fun x y => decide (x ≤ y))).Nodup := hp.nodup_iff.2 hn
  refine up_uniq ?_ (sortU_up l) (fun z => by rw [sortU_mem, ← h z]; exact hp.mem_iff)
  have hle := List.pairwise_mergeSort tr tot ss
  have := List.pairwise_and_iff.2 ⟨hle, hm⟩
  exact this.imp (fun {x y} h => by simp at h; omega)

/-- The keys of such a map, in order. -/
theorem keys_sorted {P : Program} {w : World} {b n : Nat} {l : List (Int × Value)} {ss : List Int} (hk : P.underlying 3 = some (.int .i64)) (K : Keyed P 3) (h : w.ownsMap P 3 Rv b n (dOf l)) (hp : ss.Perm (intKeys (dOf l))) :
    ss.mergeSort (fun x y => decide (x ≤ y)) = sortU (l.map Prod.fst) := by
  have nd : (sortU (l.map Prod.fst)).Nodup := (sortU_up _).imp (fun {x y} h => by omega)
  have hc : CollectedI (dOf l) (fun _ => false) (sortU (l.map Prod.fst)) := ⟨nd, fun x => by rw [sortU_mem, dOf_has, List.contains_iff_mem]; simp⟩
  have hq := hc.perm h K hk (fun _ => rfl)
  have hr := hp.trans hq.symm
  exact sorted_uniq (hr.nodup_iff.2 nd) (fun z => by rw [hr.mem_iff, sortU_mem])
/-- .. of any map with ints as keys. -/
theorem keys_sortedG {H : Type} {R : Value → Option (DataW H × List MemPlace)} {P : Program} {w : World} {b n : Nat} {D : DataW H} {l ss : List Int} (hk : P.underlying 3 = some (.int .i64)) (K : Keyed P 3) (h : w.ownsMap P 3 R b n D) (hh : ∀ x, has D (.int .i64 x) = l.contains x) (hp : ss.Perm (intKeys D)) :
    ss.mergeSort (fun x y => decide (x ≤ y)) = sortU l := by
  have nd : (sortU l).Nodup := (sortU_up _).imp (fun {x y} h => by omega)
  have hc : CollectedI D (fun _ => false) (sortU l) := ⟨nd, fun x => by rw [sortU_mem, hh, List.contains_iff_mem]; simp⟩
  have hq := hc.perm h K hk (fun _ => rfl)
  have hr := hp.trans hq.symm
  exact sorted_uniq (hr.nodup_iff.2 nd) (fun z => by rw [hr.mem_iff, sortU_mem])
end Go.Proofs.YtplddbaggbdbiaaDoor
