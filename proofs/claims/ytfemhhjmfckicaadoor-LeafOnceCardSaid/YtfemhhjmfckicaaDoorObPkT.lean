/- Own texts of this claim, one behind the other. No condition. -/
import Derived.Test.YtfemhhjmfckicaaDoorObPkS
import Derived.Shelf.SlIterI.Nil
import Derived.Shelf.SortM.Plain
import Derived.Shelf.SortM.SortNone
import Derived.Shelf.SlLaysF
import Derived.Shelf.SlLaysH
import Derived.Ground.GgzProg
import Derived.Ground.SlgmProg
import Derived.Ground.SlgfProg
import Derived.Ground.SlsfProg
import Derived.Test.YtfemhhjmfckicaaDoorProg
import Derived.Shelf.SlSortCmp.Whole1
import Derived.Shelf.SlicesE.DeleteFunc

/-
  DERIVED: THE SHELF's CONTRACTS AT THIS DUMP, IN PLAIN WORDS (tools/lay-plain.mjs out of 'TrydIter.lean', which tools/lay-shelf.mjs wrote): THE SAME DECLARATIONS UNDER THE SAME NAMES: 'import', 'namespace', 'open', 'def', 'theorem' AND NOTHING ELSE: no command of the shelf's: FOR A HAND-IN. Each laying: the table of numbers ('.._ren') and one theorem, a field a fact of the dump's own or the kernel's comparison; each contract: ONE APPLICATION.
-/
namespace Go.Proofs
open Go.Shelf
def Tryd.keysA_ren : Go.Shelf.Ren := ⟨fun | 7 => 28 | 10 => 61 | n => n, fun | 23 => 63 | 26 => 3 | 3 => 33 | 28 => 69 | 0 => 0 | 27 => 68 | 33 => 59 | 4 => 4 | n => n, fun | n => n⟩
theorem Tryd.keysA : Go.Proofs.SlLaysZI.n7 Tryd.prog Tryd.keysA_ren := {
  mixed := by kernel_rfl
  f7 := ⟨Tryd.f28.name, by decide, Tryd.func28.trans (congrArg some (by kernel_rfl))⟩
  f10 := ⟨Tryd.f61.name, by decide, Tryd.func61.trans (congrArg some (by kernel_rfl))⟩
  t0 := Tryd.underlying0
  a0 := Tryd.isAgg0
  z0 := Tryd.sizeOf0
  v0 := Tryd.zeroValue0
  t4 := Tryd.underlying4
  a4 := Tryd.isAgg4
  z4 := Tryd.sizeOf4
  v4 := Tryd.zeroValue4
  t23 := Tryd.underlying63
  a23 := Tryd.isAgg63
  z23 := Tryd.sizeOf63
  v23 := Tryd.zeroValue63
  t26 := Tryd.underlying3
  a26 := Tryd.isAgg3
  z26 := Tryd.sizeOf3
  v26 := Tryd.zeroValue3
  t27 := Tryd.underlying68
  a27 := Tryd.isAgg68
  z27 := Tryd.sizeOf68
  v27 := Tryd.zeroValue68
  t28 := Tryd.underlying69
  a28 := Tryd.isAgg69
  z28 := Tryd.sizeOf69
  v28 := Tryd.zeroValue69
  t33 := Tryd.underlying59
  a33 := Tryd.isAgg59
  z33 := Tryd.sizeOf59
  v33 := Tryd.zeroValue59 }
def Tryd.sortedA_ren : Go.Shelf.Ren := ⟨fun | 6 => 27 | 8 => 59 | 9 => 60 | 11 => 84 | 13 => 64 | 12 => 85 | 23 => 94 | 24 => 95 | 14 => 110 | 15 => 111 | 16 => 112 | 17 => 113 | 18 => 114 | 19 => 115 | 20 => 116 | 21 => 117 | 22 => 118 | 25 => 137 | 26 => 120 | 27 => 121 | 28 => 138 | 29 => 139 | 30 => 140 | 31 => 151 | n => n, fun | 26 => 3 | 28 => 69 | 24 => 40 | 0 => 0 | 3 => 3 | 37 => 109 | 48 => 157 | 50 => 100 | 4 => 4 | 40 => 150 | 39 => 149 | 45 => 154 | 5 => 5 | 9 => 9 | 51 => 175 | 55 => 179 | 57 => 194 | 58 => 195 | 33 => 59 | n => n, fun | n => n⟩
theorem Tryd.sortedA : Go.Proofs.SlLaysZI.n6 Tryd.prog Tryd.sortedA_ren := {
  mixed := by kernel_rfl
  f6 := ⟨Tryd.f27.name, by decide, Tryd.func27.trans (congrArg some (by kernel_rfl))⟩
  f8 := ⟨Tryd.f59.name, by decide, Tryd.func59.trans (congrArg some (by kernel_rfl))⟩
  f11 := ⟨Tryd.f84.name, by decide, Tryd.func84.trans (congrArg some (by kernel_rfl))⟩
  t0 := Tryd.underlying0
  a0 := Tryd.isAgg0
  z0 := Tryd.sizeOf0
  v0 := Tryd.zeroValue0
  t24 := Tryd.underlying40
  a24 := Tryd.isAgg40
  z24 := Tryd.sizeOf40
  v24 := Tryd.zeroValue40
  t26 := Tryd.underlying3
  a26 := Tryd.isAgg3
  z26 := Tryd.sizeOf3
  v26 := Tryd.zeroValue3
  t28 := Tryd.underlying69
  a28 := Tryd.isAgg69
  z28 := Tryd.sizeOf69
  v28 := Tryd.zeroValue69
  i26 := by kernel_rfl }
def Tryd.sortA_ren : Go.Shelf.Ren := ⟨fun | 5 => 60 | 8 => 64 | 7 => 85 | 19 => 94 | 20 => 95 | 10 => 110 | 11 => 111 | 12 => 112 | 13 => 113 | 14 => 114 | 15 => 115 | 16 => 116 | 17 => 117 | 18 => 118 | 30 => 137 | 31 => 120 | 32 => 121 | 33 => 138 | 34 => 139 | 35 => 140 | 40 => 151 | n => n, fun | 23 => 40 | 25 => 3 | 3 => 3 | 32 => 109 | 22 => 40 | 0 => 0 | 44 => 157 | 46 => 100 | 4 => 4 | 36 => 150 | 35 => 149 | 41 => 154 | 5 => 5 | 9 => 9 | 53 => 175 | 57 => 179 | 63 => 194 | 64 => 195 | n => n, fun | n => n⟩
theorem Tryd.sortA : Go.Proofs.SlLaysM.n5 Tryd.prog Tryd.sortA_ren := {
  mixed := by kernel_rfl
  f5 := ⟨Tryd.f60.name, by decide, Tryd.func60.trans (congrArg some (by kernel_rfl))⟩
  f7 := ⟨Tryd.f85.name, by decide, Tryd.func85.trans (congrArg some (by kernel_rfl))⟩
  f8 := Tryd.func64.trans (congrArg some (by kernel_rfl))
  f10 := ⟨Tryd.f110.name, by decide, Tryd.func110.trans (congrArg some (by kernel_rfl))⟩
  f11 := ⟨Tryd.f111.name, by decide, Tryd.func111.trans (congrArg some (by kernel_rfl))⟩
  f12 := ⟨Tryd.f112.name, by decide, Tryd.func112.trans (congrArg some (by kernel_rfl))⟩
  f13 := ⟨Tryd.f113.name, by decide, Tryd.func113.trans (congrArg some (by kernel_rfl))⟩
  f14 := ⟨Tryd.f114.name, by decide, Tryd.func114.trans (congrArg some (by kernel_rfl))⟩
  f15 := ⟨Tryd.f115.name, by decide, Tryd.func115.trans (congrArg some (by kernel_rfl))⟩
  f16 := ⟨Tryd.f116.name, by decide, Tryd.func116.trans (congrArg some (by kernel_rfl))⟩
  f17 := ⟨Tryd.f117.name, by decide, Tryd.func117.trans (congrArg some (by kernel_rfl))⟩
  f18 := ⟨Tryd.f118.name, by decide, Tryd.func118.trans (congrArg some (by kernel_rfl))⟩
  f19 := Tryd.func94.trans (congrArg some (by kernel_rfl))
  f20 := Tryd.func95.trans (congrArg some (by kernel_rfl))
  f30 := ⟨Tryd.f137.name, by decide, Tryd.func137.trans (congrArg some (by kernel_rfl))⟩
  f31 := Tryd.func120.trans (congrArg some (by kernel_rfl))
  f32 := Tryd.func121.trans (congrArg some (by kernel_rfl))
  f33 := ⟨Tryd.f138.name, by decide, Tryd.func138.trans (congrArg some (by kernel_rfl))⟩
  f34 := ⟨Tryd.f139.name, by decide, Tryd.func139.trans (congrArg some (by kernel_rfl))⟩
  f35 := ⟨Tryd.f140.name, by decide, Tryd.func140.trans (congrArg some (by kernel_rfl))⟩
  f40 := ⟨Tryd.f151.name, by decide, Tryd.func151.trans (congrArg some (by kernel_rfl))⟩
  t0 := Tryd.underlying0
  a0 := Tryd.isAgg0
  z0 := Tryd.sizeOf0
  v0 := Tryd.zeroValue0
  t3 := Tryd.underlying3
  a3 := Tryd.isAgg3
  z3 := Tryd.sizeOf3
  v3 := Tryd.zeroValue3
  t4 := Tryd.underlying4
  a4 := Tryd.isAgg4
  z4 := Tryd.sizeOf4
  v4 := Tryd.zeroValue4
  t5 := Tryd.underlying5
  a5 := Tryd.isAgg5
  z5 := Tryd.sizeOf5
  v5 := Tryd.zeroValue5
  t9 := Tryd.underlying9
  a9 := Tryd.isAgg9
  z9 := Tryd.sizeOf9
  v9 := Tryd.zeroValue9
  t22 := Tryd.underlying40
  a22 := Tryd.isAgg40
  z22 := Tryd.sizeOf40
  v22 := Tryd.zeroValue40
  t23 := Tryd.underlying40
  a23 := Tryd.isAgg40
  z23 := Tryd.sizeOf40
  v23 := Tryd.zeroValue40
  t25 := Tryd.underlying3
  a25 := Tryd.isAgg3
  z25 := Tryd.sizeOf3
  v25 := Tryd.zeroValue3
  t32 := Tryd.underlying109
  a32 := Tryd.isAgg109
  z32 := Tryd.sizeOf109
  v32 := Tryd.zeroValue109
  t35 := Tryd.underlying149
  a35 := Tryd.isAgg149
  z35 := Tryd.sizeOf149
  v35 := Tryd.zeroValue149
  t36 := Tryd.underlying150
  a36 := Tryd.isAgg150
  z36 := Tryd.sizeOf150
  v36 := Tryd.zeroValue150
  t41 := Tryd.underlying154
  a41 := Tryd.isAgg154
  z41 := Tryd.sizeOf154
  v41 := Tryd.zeroValue154
  t44 := Tryd.underlying157
  a44 := Tryd.isAgg157
  z44 := Tryd.sizeOf157
  v44 := Tryd.zeroValue157
  t46 := Tryd.underlying100
  a46 := Tryd.isAgg100
  z46 := Tryd.sizeOf100
  v46 := Tryd.zeroValue100
  t53 := Tryd.underlying175
  a53 := Tryd.isAgg175
  z53 := Tryd.sizeOf175
  v53 := Tryd.zeroValue175
  t57 := Tryd.underlying179
  a57 := Tryd.isAgg179
  z57 := Tryd.sizeOf179
  v57 := Tryd.zeroValue179
  t63 := Tryd.underlying194
  a63 := Tryd.isAgg194
  z63 := Tryd.sizeOf194
  v63 := Tryd.zeroValue194
  t64 := Tryd.underlying195
  a64 := Tryd.isAgg195
  z64 := Tryd.sizeOf195
  v64 := Tryd.zeroValue195 }
def Tryd.deleteA_ren : Go.Shelf.Ren := ⟨fun | 10 => 29 | 6 => 62 | n => n, fun | 22 => 22 | 23 => 9 | 25 => 72 | 3 => 3 | 4 => 4 | 0 => 0 | n => n, fun | n => n⟩
theorem Tryd.deleteA : Go.Proofs.SlLaysH.n10 Tryd.prog Tryd.deleteA_ren := {
  mixed := by kernel_rfl
  f6 := ⟨Tryd.f62.name, by decide, Tryd.func62.trans (congrArg some (by kernel_rfl))⟩
  f10 := ⟨Tryd.f29.name, by decide, Tryd.func29.trans (congrArg some (by kernel_rfl))⟩
  t0 := Tryd.underlying0
  a0 := Tryd.isAgg0
  z0 := Tryd.sizeOf0
  v0 := Tryd.zeroValue0
  t3 := Tryd.underlying3
  a3 := Tryd.isAgg3
  z3 := Tryd.sizeOf3
  v3 := Tryd.zeroValue3
  t4 := Tryd.underlying4
  a4 := Tryd.isAgg4
  z4 := Tryd.sizeOf4
  v4 := Tryd.zeroValue4
  t22 := Tryd.underlying22
  a22 := Tryd.isAgg22
  z22 := Tryd.sizeOf22
  v22 := Tryd.zeroValue22
  a23 := Tryd.isAgg9
  z23 := Tryd.sizeOf9
  t25 := Tryd.underlying72
  a25 := Tryd.isAgg72
  z25 := Tryd.sizeOf72
  v25 := Tryd.zeroValue72 }
def Tryd.sortFuncA_ren : Go.Shelf.Ren := ⟨fun | 6 => 32 | 15 => 64 | 14 => 63 | 28 => 94 | 29 => 95 | 20 => 86 | 21 => 87 | 22 => 88 | 23 => 89 | 24 => 90 | 25 => 91 | 26 => 92 | 27 => 93 | 46 => 119 | 47 => 120 | 48 => 121 | 49 => 122 | 50 => 123 | 57 => 141 | n => n, fun | 22 => 22 | 24 => 9 | 25 => 74 | 3 => 3 | 39 => 109 | 0 => 0 | 53 => 157 | 55 => 100 | 4 => 4 | 46 => 150 | 45 => 149 | 50 => 154 | 5 => 5 | 9 => 9 | 66 => 175 | 70 => 179 | 76 => 194 | 77 => 195 | n => n, fun | n => n⟩
theorem Tryd.sortFuncA : Go.Proofs.SlLaysF.n6 Tryd.prog Tryd.sortFuncA_ren := {
  mixed := by kernel_rfl
  f6 := ⟨Tryd.f32.name, by decide, Tryd.func32.trans (congrArg some (by kernel_rfl))⟩
  f14 := ⟨Tryd.f63.name, by decide, Tryd.func63.trans (congrArg some (by kernel_rfl))⟩
  f15 := Tryd.func64.trans (congrArg some (by kernel_rfl))
  f20 := ⟨Tryd.f86.name, by decide, Tryd.func86.trans (congrArg some (by kernel_rfl))⟩
  f21 := ⟨Tryd.f87.name, by decide, Tryd.func87.trans (congrArg some (by kernel_rfl))⟩
  f22 := ⟨Tryd.f88.name, by decide, Tryd.func88.trans (congrArg some (by kernel_rfl))⟩
  f23 := ⟨Tryd.f89.name, by decide, Tryd.func89.trans (congrArg some (by kernel_rfl))⟩
  f24 := ⟨Tryd.f90.name, by decide, Tryd.func90.trans (congrArg some (by kernel_rfl))⟩
  f25 := ⟨Tryd.f91.name, by decide, Tryd.func91.trans (congrArg some (by kernel_rfl))⟩
  f26 := ⟨Tryd.f92.name, by decide, Tryd.func92.trans (congrArg some (by kernel_rfl))⟩
  f27 := ⟨Tryd.f93.name, by decide, Tryd.func93.trans (congrArg some (by kernel_rfl))⟩
  f28 := Tryd.func94.trans (congrArg some (by kernel_rfl))
  f29 := Tryd.func95.trans (congrArg some (by kernel_rfl))
  f46 := ⟨Tryd.f119.name, by decide, Tryd.func119.trans (congrArg some (by kernel_rfl))⟩
  f47 := Tryd.func120.trans (congrArg some (by kernel_rfl))
  f48 := Tryd.func121.trans (congrArg some (by kernel_rfl))
  f49 := ⟨Tryd.f122.name, by decide, Tryd.func122.trans (congrArg some (by kernel_rfl))⟩
  f50 := ⟨Tryd.f123.name, by decide, Tryd.func123.trans (congrArg some (by kernel_rfl))⟩
  f57 := ⟨Tryd.f141.name, by decide, Tryd.func141.trans (congrArg some (by kernel_rfl))⟩
  t0 := Tryd.underlying0
  a0 := Tryd.isAgg0
  z0 := Tryd.sizeOf0
  v0 := Tryd.zeroValue0
  t3 := Tryd.underlying3
  a3 := Tryd.isAgg3
  z3 := Tryd.sizeOf3
  v3 := Tryd.zeroValue3
  t4 := Tryd.underlying4
  a4 := Tryd.isAgg4
  z4 := Tryd.sizeOf4
  v4 := Tryd.zeroValue4
  t5 := Tryd.underlying5
  a5 := Tryd.isAgg5
  z5 := Tryd.sizeOf5
  v5 := Tryd.zeroValue5
  t9 := Tryd.underlying9
  a9 := Tryd.isAgg9
  z9 := Tryd.sizeOf9
  v9 := Tryd.zeroValue9
  t22 := Tryd.underlying22
  a22 := Tryd.isAgg22
  z22 := Tryd.sizeOf22
  v22 := Tryd.zeroValue22
  a24 := Tryd.isAgg9
  z24 := Tryd.sizeOf9
  t25 := Tryd.underlying74
  a25 := Tryd.isAgg74
  z25 := Tryd.sizeOf74
  v25 := Tryd.zeroValue74
  t39 := Tryd.underlying109
  a39 := Tryd.isAgg109
  z39 := Tryd.sizeOf109
  v39 := Tryd.zeroValue109
  t45 := Tryd.underlying149
  a45 := Tryd.isAgg149
  z45 := Tryd.sizeOf149
  v45 := Tryd.zeroValue149
  t46 := Tryd.underlying150
  a46 := Tryd.isAgg150
  z46 := Tryd.sizeOf150
  v46 := Tryd.zeroValue150
  t50 := Tryd.underlying154
  a50 := Tryd.isAgg154
  z50 := Tryd.sizeOf154
  v50 := Tryd.zeroValue154
  t53 := Tryd.underlying157
  a53 := Tryd.isAgg157
  z53 := Tryd.sizeOf157
  v53 := Tryd.zeroValue157
  t55 := Tryd.underlying100
  a55 := Tryd.isAgg100
  z55 := Tryd.sizeOf100
  v55 := Tryd.zeroValue100
  t66 := Tryd.underlying175
  a66 := Tryd.isAgg175
  z66 := Tryd.sizeOf175
  v66 := Tryd.zeroValue175
  t70 := Tryd.underlying179
  a70 := Tryd.isAgg179
  z70 := Tryd.sizeOf179
  v70 := Tryd.zeroValue179
  t76 := Tryd.underlying194
  a76 := Tryd.isAgg194
  z76 := Tryd.sizeOf194
  v76 := Tryd.zeroValue194
  t77 := Tryd.underlying195
  a77 := Tryd.isAgg195
  z77 := Tryd.sizeOf195
  v77 := Tryd.zeroValue195 }
end Go.Proofs

/- leaf.Names: slices.SortFunc at heads. No condition. -/
namespace Go.Proofs.YtfemhhjmfckicaaDoor
open Go.RowKit
set_option linter.unusedVariables false
theorem sort_any {w0 w : World} (g : Gr w0 w) (blk off cap : Nat) (hb : w0.heap.size ≤ blk) (hT : U8 w0) (hM : MLen w0) (d : Array Hd) (hH : Go.Sort.Holds encH w blk off d) (hblk : blk < w.heap.size) (hsz : d.size < 4611686018427387904) :
    Calls Tryd.prog 32 #[.slice (some ⟨blk, off, none⟩) d.size cap, .func (.func 33) #[] #[]] w fun e w' =>
      e = .returned (.tuple #[]) ∧ ∃ d' n os, Go.Sort.PermIn 0 d.size d d' ∧ Go.Sort.SortedIn (Go.Proofs.ltOf cmpH) 0 d.size d' ∧ w' = Go.Proofs.sortWorld encH w blk off n d' os :=
  Go.Proofs.Any.slices_SortFunc Tryd.sortFuncA encH (fun _ => rfl) cmpH swoH 33 #[] blk off cap d w (enters_of Tryd.func33 (by kernel_rfl) rfl) (cmpLays_order g hb hT hM off d.size) hH hblk hsz
end Go.Proofs.YtfemhhjmfckicaaDoor

/- leaf.Names: rows of the call's own; slices.Clone of heads. No condition. -/
namespace Go.Proofs.YtfemhhjmfckicaaDoor
open Go.RowKit
set_option linter.unusedVariables false
set_option linter.unusedSimpArgs false
/-- A row of texts that is the call's own, or nil. -/
def Rw (w0 w : World) (A : Option Addr) (n c : Nat) (ls : List (List UInt8)) : Prop := ls.length = n ∧ (n ≤ c ∧ c ≤ 9223372036854775807) ∧ ((A = none ∧ n = 0 ∧ c = 0) ∨ ∃ g, A = some ⟨g, 0, none⟩ ∧ w0.heap.size ≤ g ∧ g < w.heap.size ∧ Go.Sort.Holds strc w g 0 ls.toArray)
theorem rw_own {w0 w : World} {v : Value} {n : Nat} {ls : List (List UInt8)} (h : Own w0 w 9 1 v n (ls.map strc)) : ∃ A c, v = .slice A n c ∧ Rw w0 w A n c ls := by
  obtain ⟨A, c, hv, hs⟩ := Own.slice h
  have hw : Ws w A n c ls := hs
  have hn := hw.len
  obtain ⟨⟨hl, h⟩, hb⟩ := h
  rcases h with ⟨h1, h2⟩ | ⟨g, cap, cur, h1, hg, hh, hc, hm, hz, ht⟩
  · rw [hv] at h1
    injection h1 with e1 e2 e3
    exact ⟨A, c, hv, hn, ⟨hw.cap, hw.max⟩, .inl ⟨e1, h2, e3⟩⟩
  · rw [hv] at h1
    injection h1 with e1 e2 e3
    refine ⟨A, c, hv, hn, ⟨hw.cap, hw.max⟩, .inr ⟨g, e1, hg, (Array.getElem?_eq_some_iff.1 hh).1, fun j hj => ?_⟩⟩
    have hj' : j < ls.length := by simpa using hj
    obtain ⟨b, o, e4, hcc⟩ := hw.addr (by omega)
    rw [e1] at e4
    injection e4 with e4
    injection e4 with e5 e6
    subst e5 e6
    refine ⟨?_, ?_⟩
    · rw [hcc j hj']
      rw [getElem!_pos ls.toArray j hj]
      rfl
    · simp [World.frozen?, hh]
theorem cloneW_any (A : Option Addr) (n c : Nat) (ls : List (List UInt8)) (w : World) (h : Ws w A n c ls) (hn : n ≤ 1000) :
    Calls Tryd.prog 30 #[.slice A n c] w fun e w' => ∃ A' c', e = .returned (.slice A' n c') ∧ Rw w w' A' n c' ls ∧ Gr w w' := by
  have hl := h.len
  by_cases h0 : n = 0
  · subst h0
    have e : ls = [] := List.eq_nil_of_length_eq_zero hl
    subst e
    cases A with
    | none => exact (Tryd.slices_Clone_string_nil 0 c w).mono fun e w' ⟨he, hw⟩ => ⟨none, 0, he, ⟨rfl, ⟨Nat.le_refl _, by omega⟩, .inl ⟨rfl, rfl, rfl⟩⟩, hw ▸ Gr.refl _⟩
    | some a =>
      refine (Tryd.slices_Clone_string_zero a c w).mono fun e w' ⟨v, he, ho, _, hb⟩ => ?_
      obtain ⟨A2, c2, hv, hr⟩ := rw_own (ls := []) (⟨ho, hb⟩ : Own w w' 9 1 v 0 (([] : List (List UInt8)).map strc))
      exact ⟨A2, c2, he.trans (by rw [hv]), hr, hb⟩
  · obtain ⟨b, o, rfl, hc⟩ := h.addr (by omega)
    have k := Tryd.slices_Clone_string b o n c (ls.map mkB) w (by rw [List.length_map]; omega) (by omega) (fun j hj => by
      rw [List.length_map] at hj
      rw [List.getD_eq_getElem?_getD, List.getElem?_map, List.getElem?_eq_getElem hj]
      exact hc j hj)
    refine k.mono fun e w' ⟨v, he, ho, _, hb⟩ => ?_
    rw [List.take_of_length_le (by rw [List.length_map]; omega), List.map_map] at ho
    obtain ⟨A2, c2, hv, hr⟩ := rw_own (ls := ls) (⟨ho, hb⟩ : Own w w' 9 1 v n (ls.map strc))
    exact ⟨A2, c2, he.trans (by rw [hv]), hr, hb⟩
end Go.Proofs.YtfemhhjmfckicaaDoor

/- leaf.Names: slices.DeleteFunc of heads. No condition. -/
namespace Go.Proofs.YtfemhhjmfckicaaDoor
open Go.RowKit
set_option linter.unusedVariables false
set_option linter.unusedSimpArgs false
theorem gr_putRow {w0 w : World} (g : Gr w0 w) {blk : Nat} (hb : w0.heap.size ≤ blk) (off q : Nat) (d : Array (List UInt8)) : Gr w0 (Go.Sort.putRow strc (Go.Sort.ahead w q) blk off d) := by
  have h := gr_sort g hb strc off q d #[]
  unfold Go.Proofs.sortWorld at h
  rwa [Go.Sort.grow_empty] at h
theorem holds_part {w : World} {blk off q : Nat} {ls ms : List (List UInt8)} (h : Go.Sort.Holds strc w blk off ls.toArray) (z : List (List UInt8)) (hz : ms.length + z.length = ls.length) :
    Go.Sort.Holds strc (Go.Sort.putRow strc (Go.Sort.ahead w q) blk off (ms ++ z).toArray) blk off ms.toArray := fun j hj => by
  have h2 := Go.Sort.holds_putRow strc (Go.Sort.ahead w q) blk off ls.toArray (ms ++ z).toArray h (by simp; omega) j (by simp at hj ⊢; omega)
  have hj' : j < ms.length := by simpa using hj
  have e : (ms ++ z).toArray[j]! = ms.toArray[j]! := by
    rw [getElem!_pos (ms ++ z).toArray j (by simp; omega), getElem!_pos ms.toArray j hj]
    simp [hj']
  rw [e] at h2
  exact h2
theorem delete_some {w0 w : World} (gr : Gr w0 w) (g n c : Nat) (ls : List (List UInt8)) (hl : ls.length = n) (hc : n ≤ c) (hcm : c ≤ 9223372036854775807) (hg : w0.heap.size ≤ g) (hw : g < w.heap.size) (hH : Go.Sort.Holds strc w g 0 ls.toArray) (hn : n ≤ 1000) :
    Calls Tryd.prog 29 #[.slice (some ⟨g, 0, none⟩) n c, .func (.func 31) #[] #[]] w fun e w' => ∃ A' n' c', e = .returned (.slice A' n' c') ∧ Rw w0 w' A' n' c' (fullH ls) ∧ Gr w0 w' := by
  have k := Go.Proofs.AnyE.slices_DeleteFunc Tryd.deleteA strc (fun _ => rfl) (fun x : List UInt8 => x == []) 31 #[] (enters_of Tryd.func31 (by kernel_rfl) rfl) [] (fun w => Tryd.zeroValue9 w) g 0 c ls.toArray w (isNone_at w) (isNone_over _ _ _ w) hH (by simp; omega) (by simp; omega)
  have e1 : ls.toArray.size = n := by simpa using hl
  rw [e1] at k
  refine k.mono fun e w' ⟨he, q, hq⟩ => ?_
  have hle : (fullH ls).length ≤ ls.length := List.length_filter_le _ _
  subst hq
  refine ⟨_, _, _, he, ⟨rfl, ⟨?_, hcm⟩, .inr ⟨g, rfl, hg, ?_, holds_part hH _ ?_⟩⟩, gr_putRow gr hg 0 q _⟩
  · show (fullH ls).length ≤ c
    omega
  · rw [Go.Sort.size_putRow]; exact hw
  · show (fullH ls).length + (List.replicate (n - (fullH ls).length) _).length = ls.length
    rw [List.length_replicate]; omega
end Go.Proofs.YtfemhhjmfckicaaDoor
