/- Own texts of this claim, one behind the other. No condition. -/
import Derived.Test.YtfemhhjmfckicaaGreatDoorObPkX
import Derived.Shelf.SlIterI.Nil
import Derived.Shelf.SortM.Plain
import Derived.Shelf.SortM.SortNone
import Derived.Shelf.SlLaysF
import Derived.Shelf.SlLaysH
import Derived.Ground.GgzProg
import Derived.Ground.SlgmProg
import Derived.Ground.SlgfProg
import Derived.Ground.SlsfProg
import Derived.Test.YtfemhhjmfckicaaGreatDoorProg
import Derived.Shelf.SlSortCmp.Whole1
import Derived.Shelf.SlicesE.DeleteFunc

/-
  DERIVED: THE SHELF's CONTRACTS AT THIS DUMP, IN PLAIN WORDS (tools/lay-plain.mjs out of 'TryzIter.lean', which tools/lay-shelf.mjs wrote): THE SAME DECLARATIONS UNDER THE SAME NAMES: 'import', 'namespace', 'open', 'def', 'theorem' AND NOTHING ELSE: no command of the shelf's: FOR A HAND-IN. Each laying: the table of numbers ('.._ren') and one theorem, a field a fact of the dump's own or the kernel's comparison; each contract: ONE APPLICATION.
-/
namespace Go.Proofs
open Go.Shelf
def Tryz.keysA_ren : Go.Shelf.Ren := ⟨fun | 7 => 54 | 10 => 84 | n => n, fun | 23 => 75 | 26 => 3 | 3 => 48 | 28 => 81 | 0 => 0 | 27 => 80 | 33 => 104 | 4 => 4 | n => n, fun | n => n⟩
theorem Tryz.keysA : Go.Proofs.SlLaysZI.n7 Tryz.prog Tryz.keysA_ren := {
  mixed := by kernel_rfl
  f7 := ⟨Tryz.f54.name, by decide, Tryz.func54.trans (congrArg some (by kernel_rfl))⟩
  f10 := ⟨Tryz.f84.name, by decide, Tryz.func84.trans (congrArg some (by kernel_rfl))⟩
  t0 := Tryz.underlying0
  a0 := Tryz.isAgg0
  z0 := Tryz.sizeOf0
  v0 := Tryz.zeroValue0
  t4 := Tryz.underlying4
  a4 := Tryz.isAgg4
  z4 := Tryz.sizeOf4
  v4 := Tryz.zeroValue4
  t23 := Tryz.underlying75
  a23 := Tryz.isAgg75
  z23 := Tryz.sizeOf75
  v23 := Tryz.zeroValue75
  t26 := Tryz.underlying3
  a26 := Tryz.isAgg3
  z26 := Tryz.sizeOf3
  v26 := Tryz.zeroValue3
  t27 := Tryz.underlying80
  a27 := Tryz.isAgg80
  z27 := Tryz.sizeOf80
  v27 := Tryz.zeroValue80
  t28 := Tryz.underlying81
  a28 := Tryz.isAgg81
  z28 := Tryz.sizeOf81
  v28 := Tryz.zeroValue81
  t33 := Tryz.underlying104
  a33 := Tryz.isAgg104
  z33 := Tryz.sizeOf104
  v33 := Tryz.zeroValue104 }
def Tryz.sortedA_ren : Go.Shelf.Ren := ⟨fun | 6 => 53 | 8 => 82 | 9 => 83 | 11 => 114 | 13 => 57 | 12 => 115 | 23 => 93 | 24 => 94 | 14 => 140 | 15 => 141 | 16 => 142 | 17 => 143 | 18 => 144 | 19 => 145 | 20 => 146 | 21 => 147 | 22 => 148 | 25 => 173 | 26 => 117 | 27 => 118 | 28 => 174 | 29 => 175 | 30 => 176 | 31 => 191 | n => n, fun | 26 => 3 | 28 => 81 | 24 => 70 | 0 => 0 | 3 => 3 | 37 => 86 | 48 => 122 | 50 => 96 | 4 => 4 | 40 => 127 | 39 => 126 | 45 => 73 | 5 => 5 | 9 => 9 | 51 => 150 | 55 => 154 | 57 => 178 | 58 => 179 | 33 => 104 | n => n, fun | n => n⟩
theorem Tryz.sortedA : Go.Proofs.SlLaysZI.n6 Tryz.prog Tryz.sortedA_ren := {
  mixed := by kernel_rfl
  f6 := ⟨Tryz.f53.name, by decide, Tryz.func53.trans (congrArg some (by kernel_rfl))⟩
  f8 := ⟨Tryz.f82.name, by decide, Tryz.func82.trans (congrArg some (by kernel_rfl))⟩
  f11 := ⟨Tryz.f114.name, by decide, Tryz.func114.trans (congrArg some (by kernel_rfl))⟩
  t0 := Tryz.underlying0
  a0 := Tryz.isAgg0
  z0 := Tryz.sizeOf0
  v0 := Tryz.zeroValue0
  t24 := Tryz.underlying70
  a24 := Tryz.isAgg70
  z24 := Tryz.sizeOf70
  v24 := Tryz.zeroValue70
  t26 := Tryz.underlying3
  a26 := Tryz.isAgg3
  z26 := Tryz.sizeOf3
  v26 := Tryz.zeroValue3
  t28 := Tryz.underlying81
  a28 := Tryz.isAgg81
  z28 := Tryz.sizeOf81
  v28 := Tryz.zeroValue81
  i26 := by kernel_rfl }
def Tryz.sortA_ren : Go.Shelf.Ren := ⟨fun | 5 => 83 | 8 => 57 | 7 => 115 | 19 => 93 | 20 => 94 | 10 => 140 | 11 => 141 | 12 => 142 | 13 => 143 | 14 => 144 | 15 => 145 | 16 => 146 | 17 => 147 | 18 => 148 | 30 => 173 | 31 => 117 | 32 => 118 | 33 => 174 | 34 => 175 | 35 => 176 | 40 => 191 | n => n, fun | 23 => 70 | 25 => 3 | 3 => 3 | 32 => 86 | 22 => 70 | 0 => 0 | 44 => 122 | 46 => 96 | 4 => 4 | 36 => 127 | 35 => 126 | 41 => 73 | 5 => 5 | 9 => 9 | 53 => 150 | 57 => 154 | 63 => 178 | 64 => 179 | n => n, fun | n => n⟩
theorem Tryz.sortA : Go.Proofs.SlLaysM.n5 Tryz.prog Tryz.sortA_ren := {
  mixed := by kernel_rfl
  f5 := ⟨Tryz.f83.name, by decide, Tryz.func83.trans (congrArg some (by kernel_rfl))⟩
  f7 := ⟨Tryz.f115.name, by decide, Tryz.func115.trans (congrArg some (by kernel_rfl))⟩
  f8 := Tryz.func57.trans (congrArg some (by kernel_rfl))
  f10 := ⟨Tryz.f140.name, by decide, Tryz.func140.trans (congrArg some (by kernel_rfl))⟩
  f11 := ⟨Tryz.f141.name, by decide, Tryz.func141.trans (congrArg some (by kernel_rfl))⟩
  f12 := ⟨Tryz.f142.name, by decide, Tryz.func142.trans (congrArg some (by kernel_rfl))⟩
  f13 := ⟨Tryz.f143.name, by decide, Tryz.func143.trans (congrArg some (by kernel_rfl))⟩
  f14 := ⟨Tryz.f144.name, by decide, Tryz.func144.trans (congrArg some (by kernel_rfl))⟩
  f15 := ⟨Tryz.f145.name, by decide, Tryz.func145.trans (congrArg some (by kernel_rfl))⟩
  f16 := ⟨Tryz.f146.name, by decide, Tryz.func146.trans (congrArg some (by kernel_rfl))⟩
  f17 := ⟨Tryz.f147.name, by decide, Tryz.func147.trans (congrArg some (by kernel_rfl))⟩
  f18 := ⟨Tryz.f148.name, by decide, Tryz.func148.trans (congrArg some (by kernel_rfl))⟩
  f19 := Tryz.func93.trans (congrArg some (by kernel_rfl))
  f20 := Tryz.func94.trans (congrArg some (by kernel_rfl))
  f30 := ⟨Tryz.f173.name, by decide, Tryz.func173.trans (congrArg some (by kernel_rfl))⟩
  f31 := Tryz.func117.trans (congrArg some (by kernel_rfl))
  f32 := Tryz.func118.trans (congrArg some (by kernel_rfl))
  f33 := ⟨Tryz.f174.name, by decide, Tryz.func174.trans (congrArg some (by kernel_rfl))⟩
  f34 := ⟨Tryz.f175.name, by decide, Tryz.func175.trans (congrArg some (by kernel_rfl))⟩
  f35 := ⟨Tryz.f176.name, by decide, Tryz.func176.trans (congrArg some (by kernel_rfl))⟩
  f40 := ⟨Tryz.f191.name, by decide, Tryz.func191.trans (congrArg some (by kernel_rfl))⟩
  t0 := Tryz.underlying0
  a0 := Tryz.isAgg0
  z0 := Tryz.sizeOf0
  v0 := Tryz.zeroValue0
  t3 := Tryz.underlying3
  a3 := Tryz.isAgg3
  z3 := Tryz.sizeOf3
  v3 := Tryz.zeroValue3
  t4 := Tryz.underlying4
  a4 := Tryz.isAgg4
  z4 := Tryz.sizeOf4
  v4 := Tryz.zeroValue4
  t5 := Tryz.underlying5
  a5 := Tryz.isAgg5
  z5 := Tryz.sizeOf5
  v5 := Tryz.zeroValue5
  t9 := Tryz.underlying9
  a9 := Tryz.isAgg9
  z9 := Tryz.sizeOf9
  v9 := Tryz.zeroValue9
  t22 := Tryz.underlying70
  a22 := Tryz.isAgg70
  z22 := Tryz.sizeOf70
  v22 := Tryz.zeroValue70
  t23 := Tryz.underlying70
  a23 := Tryz.isAgg70
  z23 := Tryz.sizeOf70
  v23 := Tryz.zeroValue70
  t25 := Tryz.underlying3
  a25 := Tryz.isAgg3
  z25 := Tryz.sizeOf3
  v25 := Tryz.zeroValue3
  t32 := Tryz.underlying86
  a32 := Tryz.isAgg86
  z32 := Tryz.sizeOf86
  v32 := Tryz.zeroValue86
  t35 := Tryz.underlying126
  a35 := Tryz.isAgg126
  z35 := Tryz.sizeOf126
  v35 := Tryz.zeroValue126
  t36 := Tryz.underlying127
  a36 := Tryz.isAgg127
  z36 := Tryz.sizeOf127
  v36 := Tryz.zeroValue127
  t41 := Tryz.underlying73
  a41 := Tryz.isAgg73
  z41 := Tryz.sizeOf73
  v41 := Tryz.zeroValue73
  t44 := Tryz.underlying122
  a44 := Tryz.isAgg122
  z44 := Tryz.sizeOf122
  v44 := Tryz.zeroValue122
  t46 := Tryz.underlying96
  a46 := Tryz.isAgg96
  z46 := Tryz.sizeOf96
  v46 := Tryz.zeroValue96
  t53 := Tryz.underlying150
  a53 := Tryz.isAgg150
  z53 := Tryz.sizeOf150
  v53 := Tryz.zeroValue150
  t57 := Tryz.underlying154
  a57 := Tryz.isAgg154
  z57 := Tryz.sizeOf154
  v57 := Tryz.zeroValue154
  t63 := Tryz.underlying178
  a63 := Tryz.isAgg178
  z63 := Tryz.sizeOf178
  v63 := Tryz.zeroValue178
  t64 := Tryz.underlying179
  a64 := Tryz.isAgg179
  z64 := Tryz.sizeOf179
  v64 := Tryz.zeroValue179 }
def Tryz.deleteA_ren : Go.Shelf.Ren := ⟨fun | 10 => 25 | 6 => 55 | n => n, fun | 22 => 22 | 23 => 9 | 25 => 50 | 3 => 3 | 4 => 4 | 0 => 0 | n => n, fun | n => n⟩
theorem Tryz.deleteA : Go.Proofs.SlLaysH.n10 Tryz.prog Tryz.deleteA_ren := {
  mixed := by kernel_rfl
  f6 := ⟨Tryz.f55.name, by decide, Tryz.func55.trans (congrArg some (by kernel_rfl))⟩
  f10 := ⟨Tryz.f25.name, by decide, Tryz.func25.trans (congrArg some (by kernel_rfl))⟩
  t0 := Tryz.underlying0
  a0 := Tryz.isAgg0
  z0 := Tryz.sizeOf0
  v0 := Tryz.zeroValue0
  t3 := Tryz.underlying3
  a3 := Tryz.isAgg3
  z3 := Tryz.sizeOf3
  v3 := Tryz.zeroValue3
  t4 := Tryz.underlying4
  a4 := Tryz.isAgg4
  z4 := Tryz.sizeOf4
  v4 := Tryz.zeroValue4
  t22 := Tryz.underlying22
  a22 := Tryz.isAgg22
  z22 := Tryz.sizeOf22
  v22 := Tryz.zeroValue22
  a23 := Tryz.isAgg9
  z23 := Tryz.sizeOf9
  t25 := Tryz.underlying50
  a25 := Tryz.isAgg50
  z25 := Tryz.sizeOf50
  v25 := Tryz.zeroValue50 }
def Tryz.sortFuncA_ren : Go.Shelf.Ren := ⟨fun | 6 => 28 | 15 => 57 | 14 => 56 | 28 => 93 | 29 => 94 | 20 => 85 | 21 => 86 | 22 => 87 | 23 => 88 | 24 => 89 | 25 => 90 | 26 => 91 | 27 => 92 | 46 => 116 | 47 => 117 | 48 => 118 | 49 => 119 | 50 => 120 | 57 => 149 | n => n, fun | 22 => 22 | 24 => 9 | 25 => 52 | 3 => 3 | 39 => 86 | 0 => 0 | 53 => 122 | 55 => 96 | 4 => 4 | 46 => 127 | 45 => 126 | 50 => 73 | 5 => 5 | 9 => 9 | 66 => 150 | 70 => 154 | 76 => 178 | 77 => 179 | n => n, fun | n => n⟩
theorem Tryz.sortFuncA : Go.Proofs.SlLaysF.n6 Tryz.prog Tryz.sortFuncA_ren := {
  mixed := by kernel_rfl
  f6 := ⟨Tryz.f28.name, by decide, Tryz.func28.trans (congrArg some (by kernel_rfl))⟩
  f14 := ⟨Tryz.f56.name, by decide, Tryz.func56.trans (congrArg some (by kernel_rfl))⟩
  f15 := Tryz.func57.trans (congrArg some (by kernel_rfl))
  f20 := ⟨Tryz.f85.name, by decide, Tryz.func85.trans (congrArg some (by kernel_rfl))⟩
  f21 := ⟨Tryz.f86.name, by decide, Tryz.func86.trans (congrArg some (by kernel_rfl))⟩
  f22 := ⟨Tryz.f87.name, by decide, Tryz.func87.trans (congrArg some (by kernel_rfl))⟩
  f23 := ⟨Tryz.f88.name, by decide, Tryz.func88.trans (congrArg some (by kernel_rfl))⟩
  f24 := ⟨Tryz.f89.name, by decide, Tryz.func89.trans (congrArg some (by kernel_rfl))⟩
  f25 := ⟨Tryz.f90.name, by decide, Tryz.func90.trans (congrArg some (by kernel_rfl))⟩
  f26 := ⟨Tryz.f91.name, by decide, Tryz.func91.trans (congrArg some (by kernel_rfl))⟩
  f27 := ⟨Tryz.f92.name, by decide, Tryz.func92.trans (congrArg some (by kernel_rfl))⟩
  f28 := Tryz.func93.trans (congrArg some (by kernel_rfl))
  f29 := Tryz.func94.trans (congrArg some (by kernel_rfl))
  f46 := ⟨Tryz.f116.name, by decide, Tryz.func116.trans (congrArg some (by kernel_rfl))⟩
  f47 := Tryz.func117.trans (congrArg some (by kernel_rfl))
  f48 := Tryz.func118.trans (congrArg some (by kernel_rfl))
  f49 := ⟨Tryz.f119.name, by decide, Tryz.func119.trans (congrArg some (by kernel_rfl))⟩
  f50 := ⟨Tryz.f120.name, by decide, Tryz.func120.trans (congrArg some (by kernel_rfl))⟩
  f57 := ⟨Tryz.f149.name, by decide, Tryz.func149.trans (congrArg some (by kernel_rfl))⟩
  t0 := Tryz.underlying0
  a0 := Tryz.isAgg0
  z0 := Tryz.sizeOf0
  v0 := Tryz.zeroValue0
  t3 := Tryz.underlying3
  a3 := Tryz.isAgg3
  z3 := Tryz.sizeOf3
  v3 := Tryz.zeroValue3
  t4 := Tryz.underlying4
  a4 := Tryz.isAgg4
  z4 := Tryz.sizeOf4
  v4 := Tryz.zeroValue4
  t5 := Tryz.underlying5
  a5 := Tryz.isAgg5
  z5 := Tryz.sizeOf5
  v5 := Tryz.zeroValue5
  t9 := Tryz.underlying9
  a9 := Tryz.isAgg9
  z9 := Tryz.sizeOf9
  v9 := Tryz.zeroValue9
  t22 := Tryz.underlying22
  a22 := Tryz.isAgg22
  z22 := Tryz.sizeOf22
  v22 := Tryz.zeroValue22
  a24 := Tryz.isAgg9
  z24 := Tryz.sizeOf9
  t25 := Tryz.underlying52
  a25 := Tryz.isAgg52
  z25 := Tryz.sizeOf52
  v25 := Tryz.zeroValue52
  t39 := Tryz.underlying86
  a39 := Tryz.isAgg86
  z39 := Tryz.sizeOf86
  v39 := Tryz.zeroValue86
  t45 := Tryz.underlying126
  a45 := Tryz.isAgg126
  z45 := Tryz.sizeOf126
  v45 := Tryz.zeroValue126
  t46 := Tryz.underlying127
  a46 := Tryz.isAgg127
  z46 := Tryz.sizeOf127
  v46 := Tryz.zeroValue127
  t50 := Tryz.underlying73
  a50 := Tryz.isAgg73
  z50 := Tryz.sizeOf73
  v50 := Tryz.zeroValue73
  t53 := Tryz.underlying122
  a53 := Tryz.isAgg122
  z53 := Tryz.sizeOf122
  v53 := Tryz.zeroValue122
  t55 := Tryz.underlying96
  a55 := Tryz.isAgg96
  z55 := Tryz.sizeOf96
  v55 := Tryz.zeroValue96
  t66 := Tryz.underlying150
  a66 := Tryz.isAgg150
  z66 := Tryz.sizeOf150
  v66 := Tryz.zeroValue150
  t70 := Tryz.underlying154
  a70 := Tryz.isAgg154
  z70 := Tryz.sizeOf154
  v70 := Tryz.zeroValue154
  t76 := Tryz.underlying178
  a76 := Tryz.isAgg178
  z76 := Tryz.sizeOf178
  v76 := Tryz.zeroValue178
  t77 := Tryz.underlying179
  a77 := Tryz.isAgg179
  z77 := Tryz.sizeOf179
  v77 := Tryz.zeroValue179 }
end Go.Proofs

/- leaf.Names: slices.SortFunc at heads. No condition. -/
namespace Go.Proofs.YtfemhhjmfckicaaGreatDoor
open Go.RowKit
set_option linter.unusedVariables false
theorem sort_any {w0 w : World} (g : Gr w0 w) (blk off cap : Nat) (hb : w0.heap.size ≤ blk) (hT : U8 w0) (hM : MLen w0) (d : Array Hd) (hH : Go.Sort.Holds encH w blk off d) (hblk : blk < w.heap.size) (hsz : d.size < 4611686018427387904) :
    Calls Tryz.prog 28 #[.slice (some ⟨blk, off, none⟩) d.size cap, .func (.func 29) #[] #[]] w fun e w' =>
      e = .returned (.tuple #[]) ∧ ∃ d' n os, Go.Sort.PermIn 0 d.size d d' ∧ Go.Sort.SortedIn (Go.Proofs.ltOf cmpH) 0 d.size d' ∧ w' = Go.Proofs.sortWorld encH w blk off n d' os :=
  Go.Proofs.Any.slices_SortFunc Tryz.sortFuncA encH (fun _ => rfl) cmpH swoH 29 #[] blk off cap d w (enters_of Tryz.func29 (by kernel_rfl) rfl) (cmpLays_order g hb hT hM off d.size) hH hblk hsz
end Go.Proofs.YtfemhhjmfckicaaGreatDoor

/- leaf.Names: rows of the call's own; slices.Clone of heads. No condition. -/
namespace Go.Proofs.YtfemhhjmfckicaaGreatDoor
open Go.RowKit
set_option linter.unusedVariables false
set_option linter.unusedSimpArgs false
/-- A row of texts that is the call's own, or nil. -/
def Rw (w0 w : World) (A : Option Addr) (n c : Nat) (ls : List (List UInt8)) : Prop := ls.length = n ∧ (n ≤ c ∧ c ≤ 9223372036854775807) ∧ ((A = none ∧ n = 0 ∧ c = 0) ∨ ∃ g, A = some ⟨g, 0, none⟩ ∧ w0.heap.size ≤ g ∧ g < w.heap.size ∧ Go.Sort.Holds strc w g 0 ls.toArray)
theorem rw_own {w0 w : World} {v : Value} {n : Nat} {ls : List (List UInt8)} (h : Own w0 w 9 1 v n (ls.map strc)) : ∃ A c, v = .slice A n c ∧ Rw w0 w A n c ls := by
  obtain ⟨A, c, hv, hs⟩ := Own.slice h
  have hw : Ws w A n c ls := hs
  have hn := hw.len
  obtain ⟨⟨hl, h⟩, hb⟩ := h
  rcases h with ⟨h1, h2⟩ | ⟨g, cap, cur, h1, hg, hh, hc, hm, hz, ht⟩
  · rw [hv] at h1
    injection h1 with e1 e2 e3
    exact ⟨A, c, hv, hn, ⟨hw.cap, hw.max⟩, .inl ⟨e1, h2, e3⟩⟩
  · rw [hv] at h1
    injection h1 with e1 e2 e3
    refine ⟨A, c, hv, hn, ⟨hw.cap, hw.max⟩, .inr ⟨g, e1, hg, (Array.getElem?_eq_some_iff.1 hh).1, fun j hj => ?_⟩⟩
    have hj' : j < ls.length := by simpa using hj
    obtain ⟨b, o, e4, hcc⟩ := hw.addr (by omega)
    rw [e1] at e4
    injection e4 with e4
    injection e4 with e5 e6
    subst e5 e6
    refine ⟨?_, ?_⟩
    · rw [hcc j hj']
      rw [getElem!_pos ls.toArray j hj]
      rfl
    · simp [World.frozen?, hh]
theorem cloneW_any (A : Option Addr) (n c : Nat) (ls : List (List UInt8)) (w : World) (h : Ws w A n c ls) (hn : n ≤ 1000) :
    Calls Tryz.prog 26 #[.slice A n c] w fun e w' => ∃ A' c', e = .returned (.slice A' n c') ∧ Rw w w' A' n c' ls ∧ Gr w w' := by
  have hl := h.len
  by_cases h0 : n = 0
  · subst h0
    have e : ls = [] := List.eq_nil_of_length_eq_zero hl
    subst e
    cases A with
    | none => exact (Tryz.slices_Clone_string_nil 0 c w).mono fun e w' ⟨he, hw⟩ => ⟨none, 0, he, ⟨rfl, ⟨Nat.le_refl _, by omega⟩, .inl ⟨rfl, rfl, rfl⟩⟩, hw ▸ Gr.refl _⟩
    | some a =>
      refine (Tryz.slices_Clone_string_zero a c w).mono fun e w' ⟨v, he, ho, _, hb⟩ => ?_
      obtain ⟨A2, c2, hv, hr⟩ := rw_own (ls := []) (⟨ho, hb⟩ : Own w w' 9 1 v 0 (([] : List (List UInt8)).map strc))
      exact ⟨A2, c2, he.trans (by rw [hv]), hr, hb⟩
  · obtain ⟨b, o, rfl, hc⟩ := h.addr (by omega)
    have k := Tryz.slices_Clone_string b o n c (ls.map mkB) w (by rw [List.length_map]; omega) (by omega) (fun j hj => by
      rw [List.length_map] at hj
      rw [List.getD_eq_getElem?_getD, List.getElem?_map, List.getElem?_eq_getElem hj]
      exact hc j hj)
    refine k.mono fun e w' ⟨v, he, ho, _, hb⟩ => ?_
    rw [List.take_of_length_le (by rw [List.length_map]; omega), List.map_map] at ho
    obtain ⟨A2, c2, hv, hr⟩ := rw_own (ls := ls) (⟨ho, hb⟩ : Own w w' 9 1 v n (ls.map strc))
    exact ⟨A2, c2, he.trans (by rw [hv]), hr, hb⟩
end Go.Proofs.YtfemhhjmfckicaaGreatDoor

/- leaf.Names: slices.DeleteFunc of heads. No condition. -/
namespace Go.Proofs.YtfemhhjmfckicaaGreatDoor
open Go.RowKit
set_option linter.unusedVariables false
set_option linter.unusedSimpArgs false
theorem gr_putRow {w0 w : World} (g : Gr w0 w) {blk : Nat} (hb : w0.heap.size ≤ blk) (off q : Nat) (d : Array (List UInt8)) : Gr w0 (Go.Sort.putRow strc (Go.Sort.ahead w q) blk off d) := by
  have h := gr_sort g hb strc off q d #[]
  unfold Go.Proofs.sortWorld at h
  rwa [Go.Sort.grow_empty] at h
theorem holds_part {w : World} {blk off q : Nat} {ls ms : List (List UInt8)} (h : Go.Sort.Holds strc w blk off ls.toArray) (z : List (List UInt8)) (hz : ms.length + z.length = ls.length) :
    Go.Sort.Holds strc (Go.Sort.putRow strc (Go.Sort.ahead w q) blk off (ms ++ z).toArray) blk off ms.toArray := fun j hj => by
  have h2 := Go.Sort.holds_putRow strc (Go.Sort.ahead w q) blk off ls.toArray (ms ++ z).toArray h (by simp; omega) j (by simp at hj ⊢; omega)
  have hj' : j < ms.length := by simpa using hj
  have e : (ms ++ z).toArray[j]! = ms.toArray[j]! := by
    rw [getElem!_pos (ms ++ z).toArray j (by simp; omega), getElem!_pos ms.toArray j hj]
    simp [hj']
  rw [e] at h2
  exact h2
theorem delete_some {w0 w : World} (gr : Gr w0 w) (g n c : Nat) (ls : List (List UInt8)) (hl : ls.length = n) (hc : n ≤ c) (hcm : c ≤ 9223372036854775807) (hg : w0.heap.size ≤ g) (hw : g < w.heap.size) (hH : Go.Sort.Holds strc w g 0 ls.toArray) (hn : n ≤ 1000) :
    Calls Tryz.prog 25 #[.slice (some ⟨g, 0, none⟩) n c, .func (.func 27) #[] #[]] w fun e w' => ∃ A' n' c', e = .returned (.slice A' n' c') ∧ Rw w0 w' A' n' c' (fullH ls) ∧ Gr w0 w' := by
  have k := Go.Proofs.AnyE.slices_DeleteFunc Tryz.deleteA strc (fun _ => rfl) (fun x : List UInt8 => x == []) 27 #[] (enters_of Tryz.func27 (by kernel_rfl) rfl) [] (fun w => Tryz.zeroValue9 w) g 0 c ls.toArray w (isNone_at w) (isNone_over _ _ _ w) hH (by simp; omega) (by simp; omega)
  have e1 : ls.toArray.size = n := by simpa using hl
  rw [e1] at k
  refine k.mono fun e w' ⟨he, q, hq⟩ => ?_
  have hle : (fullH ls).length ≤ ls.length := List.length_filter_le _ _
  subst hq
  refine ⟨_, _, _, he, ⟨rfl, ⟨?_, hcm⟩, .inr ⟨g, rfl, hg, ?_, holds_part hH _ ?_⟩⟩, gr_putRow gr hg 0 q _⟩
  · show (fullH ls).length ≤ c
    omega
  · rw [Go.Sort.size_putRow]; exact hw
  · show (fullH ls).length + (List.replicate (n - (fullH ls).length) _).length = ls.length
    rw [List.length_replicate]; omega
end Go.Proofs.YtfemhhjmfckicaaGreatDoor
