/- Own texts of this claim, one behind the other. No condition. -/
import Derived.Test.YtcfbbgbjlgonpaaGreatDoorObPkAF
import Derived.Test.YtcfbbgbjlgonpaaGreatDoorObPkAK
import Derived.Shelf.Sort.Plain
import Derived.Ground.Names2Prog
import Derived.Shelf.Slices.CompactI
import Derived.Shelf.Slices.In.SortNone
import Derived.Shelf.Bytes.SlIndexWhole
import Derived.Shelf.LaysM
import Derived.Test.YtcfbbgbjlgonpaaGreatDoorProg
import Derived.Sort.OwnSortedInts
import Derived.Lib.IndexLaws

/-
  DERIVED: THE SHELF's CONTRACTS AT THIS DUMP, IN PLAIN WORDS (tools/lay-plain.mjs out of 'TryzShelf.lean', which tools/lay-shelf.mjs wrote): THE SAME DECLARATIONS UNDER THE SAME NAMES: 'import', 'namespace', 'open', 'def', 'theorem' AND NOTHING ELSE: no command of the shelf's: FOR A HAND-IN. Each laying: the table of numbers ('.._ren') and one theorem, a field a fact of the dump's own or the kernel's comparison; each contract: ONE APPLICATION.
-/
namespace Go.Proofs
open Go.Shelf
def Tryz.lays189_ren : Go.Shelf.Ren := ⟨fun | 189 => 62 | 125 => 96 | 257 => 95 | 128 => 131 | 129 => 132 | 294 => 122 | 295 => 123 | 296 => 124 | 297 => 125 | 298 => 126 | 299 => 127 | 216 => 128 | 300 => 129 | 301 => 130 | 328 => 150 | 329 => 151 | 330 => 152 | 331 => 153 | 332 => 154 | 215 => 155 | 343 => 173 | n => n, fun | 28 => 50 | 3 => 3 | 46 => 106 | 0 => 0 | 51 => 119 | 53 => 83 | 4 => 4 | 183 => 143 | 182 => 142 | 131 => 95 | 5 => 5 | 9 => 9 | 218 => 161 | 222 => 165 | 228 => 180 | 229 => 181 | n => n, fun | n => n⟩
theorem Tryz.lays189 : Go.Proofs.Lays.n189 Tryz.prog Tryz.lays189_ren := {
  mixed := by kernel_rfl
  f125 := Tryz.func96.trans (congrArg some (by kernel_rfl))
  f128 := Tryz.func131.trans (congrArg some (by kernel_rfl))
  f129 := Tryz.func132.trans (congrArg some (by kernel_rfl))
  f189 := Tryz.func62.trans (congrArg some (by kernel_rfl))
  f215 := Tryz.func155.trans (congrArg some (by kernel_rfl))
  f216 := Tryz.func128.trans (congrArg some (by kernel_rfl))
  f257 := Tryz.func95.trans (congrArg some (by kernel_rfl))
  f294 := Tryz.func122.trans (congrArg some (by kernel_rfl))
  f295 := Tryz.func123.trans (congrArg some (by kernel_rfl))
  f296 := Tryz.func124.trans (congrArg some (by kernel_rfl))
  f297 := Tryz.func125.trans (congrArg some (by kernel_rfl))
  f298 := Tryz.func126.trans (congrArg some (by kernel_rfl))
  f299 := Tryz.func127.trans (congrArg some (by kernel_rfl))
  f300 := Tryz.func129.trans (congrArg some (by kernel_rfl))
  f301 := Tryz.func130.trans (congrArg some (by kernel_rfl))
  f328 := Tryz.func150.trans (congrArg some (by kernel_rfl))
  f329 := Tryz.func151.trans (congrArg some (by kernel_rfl))
  f330 := Tryz.func152.trans (congrArg some (by kernel_rfl))
  f331 := Tryz.func153.trans (congrArg some (by kernel_rfl))
  f332 := Tryz.func154.trans (congrArg some (by kernel_rfl))
  f343 := Tryz.func173.trans (congrArg some (by kernel_rfl))
  t0 := Tryz.underlying0
  a0 := Tryz.isAgg0
  z0 := Tryz.sizeOf0
  v0 := Tryz.zeroValue0
  t3 := Tryz.underlying3
  a3 := Tryz.isAgg3
  z3 := Tryz.sizeOf3
  v3 := Tryz.zeroValue3
  t4 := Tryz.underlying4
  a4 := Tryz.isAgg4
  z4 := Tryz.sizeOf4
  v4 := Tryz.zeroValue4
  t5 := Tryz.underlying5
  a5 := Tryz.isAgg5
  z5 := Tryz.sizeOf5
  v5 := Tryz.zeroValue5
  t9 := Tryz.underlying9
  a9 := Tryz.isAgg9
  z9 := Tryz.sizeOf9
  v9 := Tryz.zeroValue9
  t28 := Tryz.underlying50
  a28 := Tryz.isAgg50
  z28 := Tryz.sizeOf50
  v28 := Tryz.zeroValue50
  t46 := Tryz.underlying106
  a46 := Tryz.isAgg106
  z46 := Tryz.sizeOf106
  v46 := Tryz.zeroValue106
  t51 := Tryz.underlying119
  a51 := Tryz.isAgg119
  z51 := Tryz.sizeOf119
  v51 := Tryz.zeroValue119
  t53 := Tryz.underlying83
  a53 := Tryz.isAgg83
  z53 := Tryz.sizeOf83
  v53 := Tryz.zeroValue83
  t131 := Tryz.underlying95
  a131 := Tryz.isAgg95
  z131 := Tryz.sizeOf95
  v131 := Tryz.zeroValue95
  t182 := Tryz.underlying142
  a182 := Tryz.isAgg142
  z182 := Tryz.sizeOf142
  v182 := Tryz.zeroValue142
  t183 := Tryz.underlying143
  a183 := Tryz.isAgg143
  z183 := Tryz.sizeOf143
  v183 := Tryz.zeroValue143
  t218 := Tryz.underlying161
  a218 := Tryz.isAgg161
  z218 := Tryz.sizeOf161
  v218 := Tryz.zeroValue161
  t222 := Tryz.underlying165
  a222 := Tryz.isAgg165
  z222 := Tryz.sizeOf165
  v222 := Tryz.zeroValue165
  t228 := Tryz.underlying180
  a228 := Tryz.isAgg180
  z228 := Tryz.sizeOf180
  v228 := Tryz.zeroValue180
  t229 := Tryz.underlying181
  a229 := Tryz.isAgg181
  z229 := Tryz.sizeOf181
  v229 := Tryz.zeroValue181 }
open Go.Sort Go.RowKit in
theorem Tryz.slices_Sort_int (blk off cap : Nat) (zs : List Int) (w : World) (hH : Holds (Value.int .i64) w blk off zs.toArray) (hblk : blk < w.heap.size) (hsz : zs.length < 4611686018427387904) :
    Calls Tryz.prog 62 #[.slice (some ⟨blk, off, none⟩) zs.length cap] w fun e w' =>
      e = .returned (.tuple #[]) ∧ ∃ n os, w' = grow (putRow (Value.int .i64) (Sort.ahead w n) blk off (zs.mergeSort fun x y => decide (x ≤ y)).toArray) os := Any.slices_Sort_int Tryz.lays189 blk off cap zs w hH hblk hsz
def Tryz.laysNm220_ren : Go.Shelf.Ren := ⟨fun | 20 => 63 | n => n, fun | 22 => 50 | 3 => 3 | 4 => 4 | 0 => 0 | n => n, fun | n => n⟩
theorem Tryz.laysNm220 : Go.Proofs.Lays2.n20 Tryz.prog Tryz.laysNm220_ren := {
  mixed := by kernel_rfl
  f20 := Tryz.func63.trans (congrArg some (by kernel_rfl))
  t0 := Tryz.underlying0
  a0 := Tryz.isAgg0
  z0 := Tryz.sizeOf0
  v0 := Tryz.zeroValue0
  t3 := Tryz.underlying3
  a3 := Tryz.isAgg3
  z3 := Tryz.sizeOf3
  v3 := Tryz.zeroValue3
  t4 := Tryz.underlying4
  a4 := Tryz.isAgg4
  z4 := Tryz.sizeOf4
  v4 := Tryz.zeroValue4
  t22 := Tryz.underlying50
  a22 := Tryz.isAgg50
  z22 := Tryz.sizeOf50
  v22 := Tryz.zeroValue50
  i3 := by kernel_rfl }
open Go.RowKit Go.Lib Go.Sort in
/-- slices.Compact at []int: "Compact replaces consecutive runs of equal elements with a single copy. This is like the uniq command found on Unix. Compact modifies the contents of the slice s and returns the modified slice, which may have a smaller length. Compact zeroes the elements between the new length and the original length. The result preserves the nilness of s.": IT RETURNS THE SLICE CUT TO 'Lib.compact zs'; ITS CELLS HOLD 'Lib.compact zs', THEN ZERO VALUES up to the old length; all else is as it was, but for the count of draws. IN THE WORDS OF slices.Sort's CONTRACT ('Holds', 'putRow'): so the everyday 'slices.Sort(xs); xs = slices.Compact(xs)' goes from the one contract to the other. It asks 'zs.length ≤ cap' (every slice's: the reslicing 's[:k]' looks at it). Length 0, nil: '.._empty'. (LAID: no walk: one application.) -/
theorem Tryz.slices_Compact_int (blk off cap : Nat) (zs : List Int) (w : World) (hH : Holds (Value.int .i64) w blk off zs.toArray) (hsz : zs.length ≤ 9223372036854775807) (hcap : zs.length ≤ cap) :
    Calls Tryz.prog 63 #[.slice (some ⟨blk, off, none⟩) zs.length cap] w fun e w' => e = .returned (.slice (some ⟨blk, off, none⟩) (Lib.compact zs).length cap) ∧ ∃ q, w' = putRow (Value.int .i64) (Sort.ahead w q) blk off (Lib.compact zs ++ List.replicate (zs.length - (Lib.compact zs).length) 0).toArray := Any.slices_Compact_int Tryz.laysNm220 blk off cap zs w hH hsz hcap
open Go.RowKit Go.Lib Go.Sort in
/-- The same at a slice of length 0, a nil one too: it comes back as it is. (LAID: no walk: one application.) -/
theorem Tryz.slices_Compact_int_empty (a : Option Addr) (cap : Nat) (w : World) :
    Calls Tryz.prog 63 #[.slice a 0 cap] w fun e w' => e = .returned (.slice a 0 cap) ∧ w' = w := Any.slices_Compact_int_empty Tryz.laysNm220 a cap w
open Go.RowKit Go.Sort in
/-- .. and plain. (LAID: no walk: one application.) -/
theorem Tryz.slices_Sort_int_none (p : Option Addr) (cap : Nat) (w : World) :
    Calls Tryz.prog 62 #[.slice p 0 cap] w fun e w' => e = .returned (.tuple #[]) ∧ w' = w := Any.slices_Sort_int_none Tryz.lays189 p cap w
def Tryz.lays185_ren : Go.Shelf.Ren := ⟨fun | 185 => 61 | 187 => 91 | 115 => 76 | 253 => 92 | 224 => 93 | 254 => 94 | 255 => 120 | 291 => 121 | n => n, fun | 37 => 28 | 3 => 3 | 4 => 4 | 0 => 0 | 5 => 5 | 46 => 106 | 9 => 9 | 146 => 139 | 51 => 119 | n => n, fun | 1 => 0 | n => n⟩
theorem Tryz.lays185 : Go.Proofs.Lays.n185 Tryz.prog Tryz.lays185_ren := {
  mixed := by kernel_rfl
  f115 := Tryz.func76.trans (congrArg some (by kernel_rfl))
  f185 := Tryz.func61.trans (congrArg some (by kernel_rfl))
  f187 := Tryz.func91.trans (congrArg some (by kernel_rfl))
  f224 := Tryz.func93.trans (congrArg some (by kernel_rfl))
  f253 := Tryz.func92.trans (congrArg some (by kernel_rfl))
  f254 := Tryz.func94.trans (congrArg some (by kernel_rfl))
  f255 := Tryz.func120.trans (congrArg some (by kernel_rfl))
  f291 := Tryz.func121.trans (congrArg some (by kernel_rfl))
  t0 := Tryz.underlying0
  a0 := Tryz.isAgg0
  z0 := Tryz.sizeOf0
  v0 := Tryz.zeroValue0
  t3 := Tryz.underlying3
  a3 := Tryz.isAgg3
  z3 := Tryz.sizeOf3
  v3 := Tryz.zeroValue3
  t4 := Tryz.underlying4
  a4 := Tryz.isAgg4
  z4 := Tryz.sizeOf4
  v4 := Tryz.zeroValue4
  t5 := Tryz.underlying5
  a5 := Tryz.isAgg5
  z5 := Tryz.sizeOf5
  v5 := Tryz.zeroValue5
  t9 := Tryz.underlying9
  a9 := Tryz.isAgg9
  z9 := Tryz.sizeOf9
  v9 := Tryz.zeroValue9
  t37 := Tryz.underlying28
  a37 := Tryz.isAgg28
  z37 := Tryz.sizeOf28
  v37 := Tryz.zeroValue28
  t46 := Tryz.underlying106
  a46 := Tryz.isAgg106
  z46 := Tryz.sizeOf106
  v46 := Tryz.zeroValue106
  t51 := Tryz.underlying119
  a51 := Tryz.isAgg119
  z51 := Tryz.sizeOf119
  v51 := Tryz.zeroValue119
  t146 := Tryz.underlying139
  a146 := Tryz.isAgg139
  z146 := Tryz.sizeOf139
  v146 := Tryz.zeroValue139
  g1 := by kernel_rfl }
open Go.Proofs Go.RowKit Go.Lib in
/-- bytes.Index, WHOLE: "Index returns the index of the first instance of sep in s, or -1 if sep is not present in s.": 'Lib.index' of the two lists of bytes. (LAID: no walk: one application.) -/
theorem Tryz.bytes_Index_at (a1 a2 : Addr) (n c1 k c2 : Nat) (xs ys : List Int) (m : Int) (w : World) (hx : xs.length = n) (hy : ys.length = k) (hr1 : ∀ x ∈ xs, 0 ≤ x ∧ x < 256) (hr2 : ∀ y ∈ ys, 0 ≤ y ∧ y < 256) (hc1 : ∀ i, i < n → w.cell? (a1.add i) = some (.int .u8 (xs.getD i 0))) (hc2 : ∀ i, i < k → w.cell? (a2.add i) = some (.int .u8 (ys.getD i 0))) (hcap : n ≤ c1) (hs : n < 4294967281) (hk : k ≤ 9223372036854775807) (hm : w.cell? ⟨0, 0, none⟩ = some (.int .i64 m)) :
    Calls Tryz.prog 61 #[.slice (some a1) n c1, .slice (some a2) k c2] w fun e w' => e = .returned (.int .i64 (Lib.index (Lib.bytesOf xs) (Lib.bytesOf ys))) ∧ ∃ q, w' = w.drewN q := Any.bytes_Index_at Tryz.lays185 a1 a2 n c1 k c2 xs ys m w hx hy hr1 hr2 hc1 hc2 hcap hs hk hm
def Tryz.laysM185_ren : Go.Shelf.Ren := ⟨fun | 185 => 61 | 187 => 91 | 115 => 76 | 253 => 92 | 224 => 93 | 254 => 94 | 255 => 120 | 291 => 121 | n => n, fun | 37 => 28 | 3 => 3 | 4 => 4 | 0 => 0 | 5 => 5 | 46 => 106 | 9 => 9 | 146 => 139 | 51 => 119 | n => n, fun | 1 => 0 | n => n⟩
theorem Tryz.laysM185 : Go.Proofs.LaysM.n185 Tryz.prog Tryz.laysM185_ren := {
  mixed := by kernel_rfl
  f115 := Tryz.func76.trans (congrArg some (by kernel_rfl))
  f185 := Tryz.func61.trans (congrArg some (by kernel_rfl))
  f187 := Tryz.func91.trans (congrArg some (by kernel_rfl))
  f224 := Tryz.func93.trans (congrArg some (by kernel_rfl))
  f253 := Tryz.func92.trans (congrArg some (by kernel_rfl))
  f254 := Tryz.func94.trans (congrArg some (by kernel_rfl))
  f255 := Tryz.func120.trans (congrArg some (by kernel_rfl))
  f291 := Tryz.func121.trans (congrArg some (by kernel_rfl))
  t0 := Tryz.underlying0
  a0 := Tryz.isAgg0
  z0 := Tryz.sizeOf0
  v0 := Tryz.zeroValue0
  t3 := Tryz.underlying3
  a3 := Tryz.isAgg3
  z3 := Tryz.sizeOf3
  v3 := Tryz.zeroValue3
  t4 := Tryz.underlying4
  a4 := Tryz.isAgg4
  z4 := Tryz.sizeOf4
  v4 := Tryz.zeroValue4
  t5 := Tryz.underlying5
  a5 := Tryz.isAgg5
  z5 := Tryz.sizeOf5
  v5 := Tryz.zeroValue5
  t9 := Tryz.underlying9
  a9 := Tryz.isAgg9
  z9 := Tryz.sizeOf9
  v9 := Tryz.zeroValue9
  t37 := Tryz.underlying28
  a37 := Tryz.isAgg28
  z37 := Tryz.sizeOf28
  v37 := Tryz.zeroValue28
  t46 := Tryz.underlying106
  a46 := Tryz.isAgg106
  z46 := Tryz.sizeOf106
  v46 := Tryz.zeroValue106
  t51 := Tryz.underlying119
  a51 := Tryz.isAgg119
  z51 := Tryz.sizeOf119
  v51 := Tryz.zeroValue119
  t146 := Tryz.underlying139
  a146 := Tryz.isAgg139
  z146 := Tryz.sizeOf139
  v146 := Tryz.zeroValue139
  g1 := by kernel_rfl
  i0 := by kernel_rfl
  i3 := by kernel_rfl
  i4 := by kernel_rfl
  i5 := by kernel_rfl
  i9 := by kernel_rfl
  i37 := by kernel_rfl
  i46 := by kernel_rfl
  i51 := by kernel_rfl
  i146 := by kernel_rfl
  m1 := by kernel_rfl
  s1_3 := fun w h => Go.Proofs.cell_of_shapedOpen_int (zero := #[.int .i64 0]) (t := 3) h (of_decide_eq_true (by kernel_rfl)) (by kernel_rfl) rfl (by kernel_rfl) (by kernel_rfl) Tryz.underlying3 }
end Go.Proofs

/- Numbers of a call's own, sorted and without their like. No condition. -/
namespace Go.Proofs.YtcfbbgbjlgonpaaGreatDoor
open Go.RowKit
set_option linter.unusedVariables false
set_option linter.unusedSimpArgs false
theorem grI {w0 w : World} (h : Below w0.heap.size w0 w) {g : Nat} (hg : w0.heap.size ≤ g) (q : Nat) (d : Array Int) (os : Array Obj) : Below w0.heap.size w0 (Go.Sort.grow (Go.Sort.putRow (Value.int .i64) (Go.Sort.ahead w q) g 0 d) os) :=
  h.grown (grownBy_sortedI (w := w) (g := g) (n := q) (os := os) d) h.size (fun k hk => by injection hk with hk; omega)
theorem sortI_any (w0 w : World) (v : Value) (O : List Int) (h : Own w0 w 3 1 v O.length (O.map i64c)) (hn : O.length ≤ 100000) :
    Calls Tryz.prog 62 #[v] w fun e w' => e = .returned (.tuple #[]) ∧ Own w0 w' 3 1 v O.length ((O.mergeSort fun x y => decide (x ≤ y)).map i64c) := by
  by_cases h0 : O.length = 0
  · have e : O = [] := List.length_eq_zero_iff.1 h0
    subst e
    obtain ⟨A, c, hv⟩ : ∃ A c, v = .slice A 0 c := by
      rcases h.1.2 with ⟨q, _⟩ | ⟨g', cap, cur, hv', _⟩
      · exact ⟨_, _, q⟩
      · exact ⟨_, _, hv'⟩
    have hs : (([] : List Int).mergeSort fun x y => decide (x ≤ y)) = [] := by simp
    rw [hs]
    rw [hv] at h ⊢
    exact (Tryz.slices_Sort_int_none A c w).mono fun e w' ⟨he, hw⟩ => ⟨he, hw ▸ h⟩
  · rcases h.1.2 with ⟨_, q⟩ | ⟨g, cap, cur, hv, hg, hh, hc, hm, hz, hx⟩
    · exact absurd q h0
    · rw [Nat.mul_one] at hx
      have hH := holds_of_blockI (ss := O) hh (by rw [hx]; rfl)
      have hl : (O.mergeSort fun x y => decide (x ≤ y)).length = O.length := List.length_mergeSort O
      have hgl : g < w.heap.size := (Array.getElem?_eq_some_iff.1 hh).1
      have hb := h.2
      rw [hv]
      exact (Tryz.slices_Sort_int g 0 cap O w hH hgl (by omega)).mono fun e w' ⟨he, n, os, hw⟩ => ⟨he, by rw [hw]; exact ⟨ownsRow_sortedI hl hg hh hc hm hz, grI hb hg n _ os⟩⟩
theorem compactI_any (w0 w : World) (v : Value) (S : List Int) (h : Own w0 w 3 1 v S.length (S.map i64c)) (hn : S.length ≤ 100000) :
    Calls Tryz.prog 63 #[v] w fun e w' => ∃ A n c, e = .returned (.slice A n c) ∧ Is w' A n c (Lib.compact S) ∧ Below w0.heap.size w0 w' := by
  by_cases h0 : S.length = 0
  · have e : S = [] := List.length_eq_zero_iff.1 h0
    subst e
    obtain ⟨A, c, hv, hcm⟩ : ∃ A c, v = .slice A 0 c ∧ c ≤ 9223372036854775807 := by
      rcases h.1.2 with ⟨q, _⟩ | ⟨g', cap, cur, hv', _, _, _, hm, _⟩
      · exact ⟨_, _, q, Nat.zero_le _⟩
      · exact ⟨_, _, hv', hm⟩
    have hb := h.2
    rw [hv]
    exact (Tryz.slices_Compact_int_empty A c w).mono fun e w' ⟨he, hw⟩ => ⟨A, 0, c, he, ⟨rfl, Nat.zero_le _, hcm, fun q => absurd q (Nat.lt_irrefl _)⟩, hw ▸ hb⟩
  · rcases h.1.2 with ⟨_, q⟩ | ⟨g, cap, cur, hv, hg, hh, hc, hm, hz, hx⟩
    · exact absurd q h0
    · rw [Nat.mul_one] at hx
      have hH := holds_of_blockI (ss := S) hh (by rw [hx]; rfl)
      have hle : (Lib.compact S).length ≤ S.length := by unfold Lib.compact Lib.compactUpTo; rw [List.length_map]; exact Nat.le_trans (List.length_filter_le _ _) (by simp)
      have hb := h.2
      rw [hv]
      refine (Tryz.slices_Compact_int g 0 cap S w hH (by omega) hc).mono fun e w' ⟨he, q, hw⟩ => ⟨_, _, _, he, ⟨by rw [List.length_map, Nat.mul_one], by omega, hm, fun _ => ⟨g, 0, rfl, fun j u hu => ?_⟩⟩, ?_⟩
      · rw [List.getElem?_map] at hu
        obtain ⟨z, hz', rfl⟩ := Option.map_eq_some_iff.1 hu
        have hj : j < (Lib.compact S).length := (List.getElem?_eq_some_iff.1 hz').1
        have h2 := Go.Sort.holds_putRow (Value.int .i64) (Go.Sort.ahead w q) g 0 S.toArray (Lib.compact S ++ List.replicate (S.length - (Lib.compact S).length) 0).toArray hH (by simp; omega) j (by simp; omega)
        rw [hw]
        refine h2.1.trans ?_
        rw [getElem!_pos _ j (by simp; omega)]
        simp [hj]
        rw [List.getElem?_eq_getElem hj] at hz'
        injection hz' with hz'
        rw [hz']
        rfl
      · rw [hw]
        have := grI hb hg q (Lib.compact S ++ List.replicate (S.length - (Lib.compact S).length) 0).toArray #[]
        rwa [Go.Sort.grow_empty] at this
end Go.Proofs.YtcfbbgbjlgonpaaGreatDoor

/- bytes.Index of a magic word. No condition. -/
namespace Go.Proofs.YtcfbbgbjlgonpaaGreatDoor
open Go.RowKit
set_option linter.unusedVariables false
set_option linter.unusedSimpArgs false
/-- The library's word on long separators stands. -/
def MLenI (w : World) : Prop := ∃ m, w.cell? ⟨0, 0, none⟩ = some (.int .i64 m)
def numsU (l : List UInt8) : List Int := l.map fun x => ((x.toNat : Nat) : Int)
theorem numsU_bytes (l : List UInt8) : Lib.bytesOf (numsU l) = l := by
  unfold Lib.bytesOf numsU
  rw [List.map_map]
  conv => rhs; rw [← List.map_id l]
  exact List.map_congr_left fun x _ => by simp
theorem numsU_in (l : List UInt8) : ∀ x ∈ numsU l, 0 ≤ x ∧ x < 256 := fun x hx => by
  obtain ⟨y, _, rfl⟩ := List.mem_map.1 hx
  have := y.toNat_lt
  omega
theorem numsU_at {w : World} {A : Option Addr} {n c : Nat} {l : List UInt8} (h : Bs w A n c l) (h0 : 0 < n) : ∃ b o, A = some ⟨b, o, none⟩ ∧ ∀ i, i < n → w.cell? ((⟨b, o, none⟩ : Addr).add i) = some (.int .u8 ((numsU l).getD i 0)) := by
  have hl : l.length = n := by have := Sl.len h; simpa using this
  obtain ⟨b, o, e, hc⟩ := h.2.2.2 h0
  refine ⟨b, o, e, fun i hi => ?_⟩
  rw [Lib.add_plain']
  have hil : i < l.length := by omega
  refine (hc i (u8c l[i]) (by rw [List.getElem?_map, List.getElem?_eq_getElem hil]; rfl)).trans ?_
  unfold numsU
  rw [List.getD_eq_getElem?_getD, List.getElem?_map, List.getElem?_eq_getElem hil]
  rfl
theorem bytesIndex_any (A : Option Addr) (n c d : Nat) (M : Option Addr) (l : List UInt8) (w : World) (h : Bs w A n c l) (hn : n ≤ 20000) (hs : Bs w M 8 d magicL) (hm : MLenI w) :
    Calls Tryz.prog 61 #[.slice A n c, .slice M 8 d] w fun e w' => e = .returned (.int .i64 (Lib.index l magicL)) ∧ ∃ q, w' = w.drewN q := by
  have hl : l.length = n := by have := Sl.len h; simpa using this
  have hcp := Sl.cap h
  by_cases h8 : n < 8
  · have e1 : Lib.index l magicL = -1 := Lib.index_long (by rw [hl]; show n ≤ 8; omega) (fun e => by rw [← e] at hl; have : magicL.length = 8 := rfl; omega)
    rw [e1]
    exact (Any.bytes_Index_longer Tryz.lays185 A M n c 8 d w (by omega) h8 (by omega)).mono fun e w' ⟨he, hw⟩ => ⟨he, 0, hw⟩
  · obtain ⟨b, o, rfl, hc⟩ := numsU_at h (by omega)
    obtain ⟨b2, o2, rfl, hc2⟩ := numsU_at hs (by omega)
    obtain ⟨m, hmm⟩ := hm
    have k := Tryz.bytes_Index_at ⟨b, o, none⟩ ⟨b2, o2, none⟩ n c 8 d (numsU l) (numsU magicL) m w (by unfold numsU; rw [List.length_map]; exact hl) rfl (numsU_in l) (numsU_in magicL) hc hc2 hcp (by omega) (by omega) hmm
    rwa [numsU_bytes, numsU_bytes] at k
end Go.Proofs.YtcfbbgbjlgonpaaGreatDoor
