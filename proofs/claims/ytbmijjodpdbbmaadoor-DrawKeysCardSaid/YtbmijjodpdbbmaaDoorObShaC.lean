import Derived.RangeFuncNested
import Derived.RangeFuncBound
import Derived.RangeFuncCalls
import Derived.RangeFuncLeaves
import Derived.Shelf.Abstract
import Derived.Shelf.RegionOpen
import Derived.WalkKit
import Derived.OwnWalkIn
import Derived.TacticsInMore
import Derived.LoopNIn
import Derived.LoopIn
import Derived.Test.YtbmijjodpdbbmaaDoorObShaS
namespace Go.Proofs.YtbmijjodpdbbmaaDoor
open Go.RowKit Go.Shelf
attribute [local go_sem] Oper.semAt_some
set_option linter.unusedVariables false

def offs (m : Nat) : List Nat := (List.range m).map fun k => 64 * k
theorem offs_succ (m : Nat) : offs (m + 1) = offs m ++ [64 * m] := by simp [offs, List.range_succ]
/-- Where a part of 64 bytes may begin. -/
abbrev Cut (m : Nat) : Type := { x : Nat // x + 64 ≤ 64 * m }
theorem offs_len (m : Nat) : (offs m).length = m := by simp [offs]
/-- Below n₀ all blocks but one are as they were. -/
def KB (hb n₀ : Nat) (W W' : World) : Prop := W.heap.size ≤ W'.heap.size ∧ ∀ b, b < n₀ → b ≠ hb → W'.heap[b]? = W.heap[b]?
theorem KB.refl (hb n₀ : Nat) (W : World) : KB hb n₀ W W := ⟨Nat.le_refl _, fun _ _ _ => rfl⟩
theorem KB.trans {hb n₀ : Nat} {A B C : World} (h : KB hb n₀ A B) (k : KB hb n₀ B C) : KB hb n₀ A C := ⟨Nat.le_trans h.1 k.1, fun b h1 h2 => (k.2 b h1 h2).trans (h.2 b h1 h2)⟩
theorem KB.drew {hb n₀ : Nat} {A B : World} (h : KB hb n₀ A B) : KB hb n₀ A B.drew := h
theorem KB.cell {hb n₀ : Nat} {A B : World} (h : KB hb n₀ A B) {b i : Nat} (h1 : b < n₀) (h2 : b ≠ hb) : B.cell? ⟨b, i, none⟩ = A.cell? ⟨b, i, none⟩ := World.cell?_of_block (h.2 b h1 h2)
theorem run_from1 (b off L cap j : Nat) (h : j < L) (hc : L ≤ cap) (w : World) : (Instr.slice 22 (.slice (some ⟨b, off, none⟩) L cap) (some (.int .i64 (j : Int))) none none).run Tryd.prog w = .ok (.slice (some ⟨b, off + j, none⟩) (L - j) (cap - j)) w := by
  obtain ⟨A', hA, hr⟩ := run_from tBytes (some ⟨b, off, none⟩) L cap j (by omega) hc
  rw [hA h b off rfl, Nat.mul_one] at hr
  exact hr w
theorem run_three (b off L cap j : Nat) (h : j + 64 ≤ cap) (w : World) : (Instr.slice 22 (.slice (some ⟨b, off, none⟩) L cap) (some (.int .i64 (j : Int))) (some (.int .i64 ((j : Int) + 64))) (some (.int .i64 ((j : Int) + 64)))).run Tryd.prog w = .ok (.slice (some ⟨b, off + j, none⟩) 64 64) w := by
  obtain ⟨i, hi, hz, hsz, hby⟩ := info_parts tBytes.info
  have he : Tryd.prog.elem 22 = 5 := by simp [Program.elem, tBytes.und]
  have hu : Tryd.prog.underlying 22 = some (.slice (Tryd.prog.elem 22)) := by rw [he]; exact tBytes.und
  rw [run_slice_lhm w 22 (some ⟨b, off, none⟩) L cap hu .i64 .i64 .i64 (j : Int) ((j : Int) + 64) ((j : Int) + 64) (by omega) (by omega) (by omega) (by omega)]
  have e1 : ((j : Int) + 64).toNat = j + 64 := by omega
  have e3 : ¬ (j + 64 = j) := by omega
  simp [sizeOf, typeInfo, he, hi, Result.andThen, sliced, hsz, e1, add_flat]

set_option maxRecDepth 100000 in
set_option maxHeartbeats 1000000 in
theorem chunk1_in (F : Fence) (n : Nat) (hF : F.fn 174) (hro : F.round = none) (hn : 1 ≤ n) (l hB Bs Bn n₀ b off m cap : Nat) (hb : Bs < n₀) (hb2 : Bn < n₀) (hne : Bs ≠ hB) (hne2 : Bn ≠ hB) (hcap : 64 * m ≤ cap) (hmax : cap ≤ 9223372036854775807) (hm : m ≤ 1048576) (J Jx : List (Cut m) → World → Prop) (hJd : ∀ s A, J s A → J s A.drew)
    (hY : ∀ pre (x : Cut m) W, J pre W → pre.length < m → YieldAt F (n - 1) Tryd.prog l #[.slice (some ⟨b, off + x.1, none⟩) 64 64] W fun e W' =>
      (e = .returned (.bool true) ∧ J (pre ++ [x]) W' ∧ KB hB n₀ W W') ∨ (e = .returned (.bool false) ∧ Jx (pre ++ [x]) W'))
    (W : World) (hBs : W.cell? ⟨Bs, 0, none⟩ = some (.slice (some ⟨b, off, none⟩) (64 * m) cap)) (hBn : W.cell? ⟨Bn, 0, none⟩ = some (.int .i64 64)) (h0 : J [] W) :
    CallsIn F n Tryd.prog 174 #[.func (.yield l) #[] #[], .pointer (some ⟨Bs, 0, none⟩), .pointer (some ⟨Bn, 0, none⟩)] W fun e W' => (∃ v, e = .returned v) ∧
      ((∃ ys : List (Cut m), ys.map Subtype.val = offs m ∧ J ys W') ∨ (∃ pre, True ∧ Jx pre W')) := by
  refine callsIn_of_wp Tryd.func174 rfl hF ?_ hro
  simp only [Tryd.ntmps174, List.size_toArray, List.length_cons, List.length_nil, Nat.reduceAdd, Nat.reduceSub, Array.replicate_succ, Array.replicate_zero, List.push_toArray, List.append_toArray, List.nil_append, List.cons_append]
  obtain ⟨L, hL⟩ : ∃ L, L = 64 * m := ⟨_, rfl⟩
  rw [← hL] at hBs hcap
  have HL := Lib.hid hL; clear hL
  gi_wp2
  gi_loopw [4] (fun i wr => ∃ k j : Nat, k ≤ m ∧ 64 * k = j ∧ i = .int .i64 j ∧ (∃ pre : List (Cut m), pre.map Subtype.val = offs k ∧ J pre wr) ∧ KB hB n₀ W wr)
    (fun i _ => 64 * m + 64 - (intOf i).toNat)
  case atStart => exact ⟨0, 0, Nat.zero_le _, rfl, rfl, ⟨[], rfl, h0⟩, KB.refl _ _ _⟩
  case round =>
    obtain ⟨k, j, hk, hj, rfl, ⟨pre, hpre, hJs⟩, hnx⟩ := hrel
    have HPR := Lib.hid hpre; clear hpre
    have HLo := HL.out
    have c1 := (hnx.cell (i := 0) hb hne).trans hBs
    have c2 := (hnx.cell (i := 0) hb2 hne2).trans hBn
    by_cases hlt : k < m
    · have hcut : j + 64 ≤ 64 * m := by omega
      obtain ⟨fn, tmps, assign, body, hy, hR⟩ := hY pre ⟨j, hcut⟩ wr.drew (hJd _ _ hJs) (by have := congrArg List.length HPR.out; rw [List.length_map, offs_len] at this; omega)
      dsimp only at hy
      have hjl : j < L := by omega
      have hjs : j ≤ 67108864 := by omega
      have hs1 := run_from1 b off L cap j hjl hcap
      have hs2 := run_three b off L cap j (by omega)
      have hmn : min (64 : Int) ((L - j : Nat) : Int) = 64 := by omega
      have HJ := Lib.hid hj; clear hj HLo
      have p0 : (0 : Int) ≤ (j : Int) := by omega
      gi_wp2
      gi_region
      all_goals
        gi_wp2
        refine hR.mono ?_
        rintro e W3 (⟨rfl, hJ3, hk3⟩ | ⟨rfl, hJx3⟩)
        · have c3 : W3.cell? ⟨Bn, 0, none⟩ = some (.int .i64 64) := (hk3.cell (i := 0) hb2 hne2).trans c2
          clear hs1 hs2 hmn
          gi_wp2
          go_roundw
          case rel => exact ⟨k + 1, j + 64, by omega, by have := HJ.out; omega, by go_num, ⟨_, by rw [List.map_append, HPR.out, offs_succ, HJ.out]; rfl, hJ3⟩, hnx.drew.trans hk3⟩
          case measure => have := HL.out; simp [intOf]; omega
        · gi_wp2
          refine bodyPost_ret (results_none rfl _ _ _) rfl ?_
          exact ⟨⟨_, rfl⟩, .inr ⟨_, trivial, hJx3⟩⟩
    · obtain rfl : k = m := by omega
      obtain rfl : L = j := by omega
      have t1 : decide ((L : Int) < (L : Int)) = false := by simp
      clear HLo hj
      gi_wp2
      go_end0
      exact ⟨⟨_, rfl⟩, .inl ⟨_, HPR.out, hJs⟩⟩

theorem chunk_in (F : Fence) (n : Nat) (hF : F.fn 164) (hro : F.round = none) (a : Option Addr) (len cap : Nat) (w : World) :
    CallsIn F n Tryd.prog 164 #[.slice a len cap, .int .i64 64] w fun e w' => e = .returned (.func (.func 174) #[] #[.pointer (some ⟨w.heap.size, 0, none⟩), .pointer (some ⟨w.heap.size + 1, 0, none⟩)]) ∧ w' = (w.alloc (.cells #[.slice a len cap] 22)).alloc (.cells #[.int .i64 64] 3) := by
  refine callsIn_of_wp Tryd.func164 rfl hF ?_ hro
  simp only [Tryd.ntmps164, List.size_toArray, List.length_cons, List.length_nil, Nat.reduceAdd, Nat.reduceSub, Array.replicate_succ, Array.replicate_zero, List.push_toArray, List.append_toArray, List.nil_append, List.cons_append]
  gi_wp2
  go_ret
  exact ⟨rfl, rfl⟩
theorem grown_drew (w : World) : w.grownBy w.drew none := ⟨rfl, rfl, rfl, Nat.le_refl _, fun _ _ _ => rfl⟩
theorem chunk_stops (F : Fence) (n : Nat) (hF : F.fn 174) (hro : F.round = none) (hn : 1 ≤ n) (hB Bs Bn n₀ b off m cap : Nat) (hb : Bs < n₀) (hb2 : Bn < n₀) (hne : Bs ≠ hB) (hne2 : Bn ≠ hB) (hcap : 64 * m ≤ cap) (hmax : cap ≤ 9223372036854775807) (hm : m ≤ 1048576) (w : World) (hn₀ : n₀ ≤ w.heap.size)
    (hBs : w.cell? ⟨Bs, 0, none⟩ = some (.slice (some ⟨b, off, none⟩) (64 * m) cap)) (hBn : w.cell? ⟨Bn, 0, none⟩ = some (.int .i64 64)) :
    SeqStopsK F n Tryd.prog 174 #[.pointer (some ⟨Bs, 0, none⟩), .pointer (some ⟨Bn, 0, none⟩)] (fun x : Cut m => #[Value.slice (some ⟨b, off + x.1, none⟩) 64 64]) (KB hB n₀) (fun ys => ys.map Subtype.val = offs m) (fun _ => True) m w := fun l J Jx W hW hJ _ hY h0 =>
  chunk1_in F n hF hro hn l hB Bs Bn n₀ b off m cap hb hb2 hne hne2 hcap hmax hm J Jx (fun s A h => hJ s A _ none h (grown_drew A) (fun r e => by cases e)) hY W
    ((hW.cell (p := ⟨Bs, 0, none⟩) (by show Bs < _; omega)).trans hBs) ((hW.cell (p := ⟨Bn, 0, none⟩) (by show Bn < _; omega)).trans hBn) h0
end Go.Proofs.YtbmijjodpdbbmaaDoor
