import Derived.Test.YtbmijjodpdbbmaaObImageW
import Derived.Test.YtbmijjodpdbbmaaObMapI
import Derived.Test.YtbmijjodpdbbmaaObTrailW
import Derived.Test.YtbmijjodpdbbmaaObIter
import Derived.Shelf.SlIterI.Nil
import Derived.Shelf.SortM.Plain
import Derived.Shelf.SortM.SortNone
namespace Go.Proofs.Ytbmijjodpdbbmaa
open Go.RowKit Go.Maps
set_option linter.unusedVariables false

theorem keyed3 : Keyed Try.prog 3 := int_keyed Try.underlying3
def Wr.v (x : Wr) : Value := .agg #[.int .i64 x.p, x.r.v]
def lastL (L : List Wr) : List (Int × Value) := L.map fun x => (x.p, x.v)

theorem wf_i64 {x : Int} (h1 : -9223372036854775808 ≤ x) (h2 : x ≤ 9223372036854775807) : (Lit.int .i64 x).wf = true := by
  simp [Lit.wf, IntKind.min, IntKind.max, IntKind.signed, IntKind.bits]; omega

theorem last_any (A : Option Addr) (n c : Nat) (L : List Wr) (w : World) (h : Wrs w A n c L) (hn : n ≤ 1048576) :
    Calls Try.prog 37 #[.slice A n c] w fun e w' => e = .returned (.map (some w.heap.size)) ∧ w'.ownsMap Try.prog 3 Rv w.heap.size n (dOf (lastL L)) ∧ Below w.heap.size w w' := by
  have hmm := @run_makeMap Try.prog
  have HH := Lib.hid h; clear h
  have HLN := Lib.hid HH.out.1
  go_enter Try.func37, Try.ntmps37
  go_wp2
  go_loopw [9] (fun i wr => ∃ k : Nat, k ≤ n ∧ i = .int .i64 k ∧ wr.ownsMap Try.prog 3 Rv w.heap.size k (dOf (lastL (L.take k))) ∧ Below w.heap.size w wr) (fun i _ => n - (intOf i).toNat)
  case atStart => exact ⟨0, Nat.zero_le _, rfl, World.ownsMap_made _ _ _ _, (Below.refl _ _).alloc (Nat.le_refl _) _⟩
  case round =>
    obtain ⟨k, hk, rfl, hown, hnx⟩ := hrel
    by_cases hlt : k < n
    · obtain ⟨b, o, ⟨xp, xr⟩, rfl, hx, c1, c2, hrow, hp1, hp2⟩ := (HH.out.mono hnx).row hlt
      simp only at c1 c2 hrow hp1 hp2
      have HX := Lib.hid hx; clear hx hrow
      have hkey : keyOf Try.prog 3 (.int .i64 xp) = some (.int .i64 xp) := keyOf_int_mk Try.underlying3 (wf_i64 hp1 hp2)
      have hown2 := hown.alloc (.cells #[.int .i64 xp, .slice xr.a xr.n xr.c] 46)
      have hb2 := hnx.alloc hnx.size (.cells #[.int .i64 xp, .slice xr.a xr.n xr.c] 46)
      have HT : Hid (lastL (L.take (k + 1)) = lastL (L.take k) ++ [(xp, .agg #[.int .i64 xp, .slice xr.a xr.n xr.c])]) := by
        have hk : k < L.length := (List.getElem?_eq_some_iff.1 HX.out).1
        rw [List.take_succ_eq_append_getElem hk]
        have := HX.out
        rw [List.getElem?_eq_getElem hk] at this
        injection this with this
        rw [this]
        simp only [lastL, List.map_append, List.map_cons, List.map_nil]
        exact rfl
      have HN := Lib.hid hnx; clear hnx
      clear hown
      go_wp2_with (first
        | (at_mapUpdate; refine wpList_mapUpdate_own _ rfl _ _ _ 55 rfl 3 46 keyed3 Try.underlying55 Rv w.heap.size k _ rfl hown2 (by unfold maxLen; omega) _ _ _ rfl rfl hkey _ [] rfl ?_; intro w1 hown1 hgrow1)
        | go_in)
      go_roundw
      case rel => exact ⟨k + 1, by omega, by go_num, by rw [HT.out, dOf_snoc]; exact hown1, hb2.grown hgrow1 hb2.size (fun j hj => by cases hj; exact Nat.le_refl _)⟩
      case measure => simp [intOf]; omega
    · obtain rfl : n = k := by omega
      go_wp2
      go_ret
      rw [List.take_of_length_le (by rw [HLN.out]; omega)] at hown
      exact ⟨rfl, hown, hnx⟩

/-! ### the places, in order -/
theorem sortsA (m : Nat) : AnyZI.SortsIn Try.prog Try.sortedA_ren Fence.wide m :=
  ⟨fun blk off cap ss W hH hblk hsz => callsIn_wide.2 (AnyM.slices_Sort_int Try.sortA blk off cap ss W hH hblk hsz),
   fun p cap W => callsIn_wide.2 (AnyM.slices_Sort_int_none Try.sortA p cap W)⟩

set_option maxHeartbeats 1000000 in
theorem places_any (A : Option Addr) (n c : Nat) (L : List Wr) (w : World) (h : Wrs w A n c L) (hn : n ≤ 1048576) :
    Calls Try.prog 15 #[.slice A n c] w (RetIs w (sortU (L.map Wr.p))) := by
  refine (callsIn_wide (n := 6)).1 ?_
  have cL : CallsIn Fence.wide 5 Try.prog 37 #[.slice A n c] w fun e w' => e = .returned (.map (some w.heap.size)) ∧ w'.ownsMap Try.prog 3 Rv w.heap.size n (dOf (lastL L)) ∧ Below w.heap.size w w' := callsIn_wide.2 (last_any A n c L w h hn)
  have cK : ∀ mb W, CallsIn Fence.wide 5 Try.prog 36 #[.map mb] W fun e w' => e = .returned (.func (.func 58) #[] #[.pointer (some ⟨W.heap.size, 0, none⟩)]) ∧ w' = W.alloc (.cells #[.map mb] 55) := fun mb W => AnyZI.keys_in Try.keysA Fence.wide 5 trivial rfl mb W
  have hfL : Fence.wide.fn 37 := trivial
  have hfK : Fence.wide.fn 36 := trivial
  have hfS : Fence.wide.fn 35 := trivial
  clear h
  refine callsIn_of_wp Try.func15 rfl trivial ?_ rfl
  simp only [Try.ntmps15, List.size_toArray, List.length_cons, List.length_nil, Nat.reduceAdd, Nat.reduceSub, Array.replicate_succ, Array.replicate_zero, List.push_toArray, List.append_toArray, List.nil_append, List.cons_append]
  gi_wp2_with (first
    | (gi_at_call 37; refine cL.mono ?_; rintro e wl ⟨rfl, hown, hbl⟩)
    | (gi_at_call 36; refine (cK _ _).mono ?_; rintro e w' ⟨rfl, rfl⟩)
    | fail)
  have hbl0 : w.heap.size < wl.heap.size := hown.lt
  have hszD : Maps.size (dOf (lastL L)) ≤ n := hown.size_le
  have hseq : SeqGives Fence.wide 2 Try.prog 58 #[.pointer (some ⟨wl.heap.size, 0, none⟩)] encZ (fun ss => ss.Perm (intKeys (dOf (lastL L)))) (Maps.size (dOf (lastL L))) (wl.alloc (.cells #[.map (some w.heap.size)] 55)) :=
    AnyZI.keys_gives (ρ := Try.keysA_ren) { Try.keysA with } Fence.wide _ trivial rfl (by omega) wl.heap.size w.heap.size n (dOf (lastL L)) _ (by simp) (by simp) (hown.alloc _)
  have cS := AnyZI.sorted_in Try.sortedA Fence.wide 5 trivial trivial trivial trivial rfl (by omega) (sortsA _) (enters_of Try.func57 (by kernel_rfl) rfl) 58 #[.pointer (some ⟨wl.heap.size, 0, none⟩)] trivial (enters_of Try.func58 (by kernel_rfl) rfl) _ _ (by simp only [maxLen]; omega) (by omega) _ hseq
  change CallsIn _ _ Try.prog 35 _ _ _ at cS
  refine cS.mono ?_
  rintro e w' ⟨v, ss, rfl, hS, hrow, hnil, hb⟩
  have hsort := keys_sorted Try.underlying3 keyed3 hown hS
  have hlen : ss.length = (sortU (L.map Wr.p)).length := by
    have h1 := congrArg List.length hsort
    rw [List.length_mergeSort] at h1
    rw [h1]; simp [lastL, List.map_map]; rfl
  have hfin : RetIs w (sortU (L.map Wr.p)) (.returned v) w' := by
    refine ⟨v, rfl, ?_, hbl.trans (((Below.refl _ wl).alloc (Nat.le_refl _) _ |>.trans (hb.mono (by simp))).mono hbl.size)⟩
    have h2 := ownsRow_base_a hrow (show w.heap.size ≤ _ by simp; omega)
    rw [hsort, hlen] at h2
    have e1 : (lastL L).map Prod.fst = L.map Wr.p := by rw [lastL, List.map_map]; rfl
    rw [e1] at h2
    exact h2
  have HF := Lib.hid hfin; clear hfin
  gi_wp2
  go_ret
  exact HF.out
end Go.Proofs.Ytbmijjodpdbbmaa
