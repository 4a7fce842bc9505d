/- A set's ids in order. No condition. -/
import Derived.Test.YthlnoaalhojphaaObKnowS
import Derived.Test.YthlnoaalhojphaaObMapI
import Derived.Test.YthlnoaalhojphaaObIter
import Derived.Shelf.SlIterI.Nil
import Derived.Shelf.SortM.Plain
import Derived.Shelf.SortM.SortNone
import Derived.Outline
namespace Go.Proofs.Ythlnoaalhojphaa
open Go.RowKit Go.Maps
set_option linter.unusedVariables false
theorem sortsK (m : Nat) : AnyZI.SortsIn Try.prog Try.sortedA_ren Fence.wide m :=
  ⟨fun blk off cap ss W hH hblk hsz => callsIn_wide.2 (AnyM.slices_Sort_int Try.sortA blk off cap ss W hH hblk hsz),
   fun p cap W => callsIn_wide.2 (AnyM.slices_Sort_int_none Try.sortA p cap W)⟩
theorem keysK_any (mb : Option Nat) (W : World) : Calls Try.prog 34 #[.map mb] W fun e w' => e = .returned (.func (.func 50) #[] #[.pointer (some ⟨W.heap.size, 0, none⟩)]) ∧ w' = W.alloc (.cells #[.map mb] 53) := (callsIn_wide (n := 5)).1 (AnyZI.keys_in Try.keysA Fence.wide 5 trivial rfl mb W)
theorem sortedK_any (bk n : Nat) (l : List Int) (wl : World) (h : mK wl bk n l) (hn : n ≤ 100000) :
    Calls Try.prog 33 #[.func (.func 50) #[] #[.pointer (some ⟨wl.heap.size, 0, none⟩)]] (wl.alloc (.cells #[.map (some bk)] 53)) fun e w' => RetOwnI wl (sortU l) e w' := by
  obtain ⟨D, hown, hD⟩ := h
  have hszD : Maps.size D ≤ n := hown.size_le
  have hseq : SeqGives Fence.wide 2 Try.prog 50 #[.pointer (some ⟨wl.heap.size, 0, none⟩)] encZ (fun ss => ss.Perm (intKeys D)) (Maps.size D) (wl.alloc (.cells #[.map (some bk)] 53)) :=
    AnyZI.keys_gives (ρ := Try.keysA_ren) { Try.keysA with } Fence.wide _ trivial rfl (by omega) wl.heap.size bk n D _ (by simp) (by simp) (hown.alloc _)
  have cS := AnyZI.sorted_in Try.sortedA Fence.wide 5 trivial trivial trivial trivial rfl (by omega) (sortsK _) (enters_of Try.func49 (by kernel_rfl) rfl) 50 #[.pointer (some ⟨wl.heap.size, 0, none⟩)] trivial (enters_of Try.func50 (by kernel_rfl) rfl) _ _ (by simp only [maxLen]; omega) (by omega) _ hseq
  change CallsIn _ _ Try.prog 33 _ _ _ at cS
  refine (callsIn_wide.1 cS).mono ?_
  rintro e w' ⟨v, ss, rfl, hS, hrow, hnil, hb⟩
  have hsort := keys_sortedG Try.underlying3 keyedI hown hD hS
  have hlen : ss.length = (sortU l).length := by
    have h1 := congrArg List.length hsort
    rwa [List.length_mergeSort] at h1
  have hg : Gr wl w' := (Gr.alloc wl _).trans (hb.mono (by simp))
  have h2 := ownsRow_base_a hrow (show wl.heap.size ≤ _ by simp)
  rw [hsort, hlen] at h2
  have ho : Own wl w' 3 1 v (sortU l).length ((sortU l).map i64c) := ⟨h2, hg⟩
  obtain ⟨A, c, rfl, hs⟩ := ho.slice
  exact ⟨A, c, rfl, hs, hg⟩
end Go.Proofs.Ythlnoaalhojphaa
