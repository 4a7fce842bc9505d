import Derived.Test.YtbmijjodpdbbmaaDoorObShaX
import Derived.Test.YtbmijjodpdbbmaaDoorObShaM
import Derived.Laws.CopyOwn
import Derived.Lib.LaidTab
import Derived.Deep.RegionLaw
namespace Go.Proofs.YtbmijjodpdbbmaaDoor
open Go.RowKit
set_option linter.unusedVariables false

theorem step_copy_row {P : Program} {ops : Array Oper} {o : Oper} {a : Act} {w : World} {K : Act → World → Prop} {Q : Exit → Act → World → Prop} {E : Prop} (hgd : o.guard = none) (d s : Operand) (dT sT : TypeId)
    (ho : o.op = .call { callee := .builtin .copy, args := #[d, s], argTypes := #[dT, sT] }) (elem : TypeId) (hu : P.underlying dT = some (.slice elem)) (hsz : (P.info? elem).map (·.size) = some 1)
    (g off dLen dCap : Nat) (ad : Addr) (sLen sCap : Nat) (hd : a.eval d = .slice (some ⟨g, off, none⟩) dLen dCap) (hs : a.eval s = .slice (some ad) sLen sCap)
    (cur : Array Value) (t : TypeId) (hg : w.heap[g]? = some (.cells cur t (0, 0))) (cs : List Value) (hn : cs.length = Nat.min sLen dLen)
    (hsrc : ∀ j v, cs[j]? = some v → w.cell? (ad.add j) = some v) (hfit : off + cs.length ≤ cur.size) (h1 : ∀ v ∈ cs, v.oneCell' = true)
    (new : Array Value) (hnew : (cur.toList.take off ++ cs ++ cur.toList.drop (off + cs.length)).toArray = new)
    (h : K (a.put o.dst (goInt cs.length)) (w.setRow g new)) :
    if Region.wanted o (yielded ops a.tmps) = true then Oper.wp P o a w K Q else E := by
  have hw : Region.wanted o (yielded ops a.tmps) = true := by simp [Region.wanted, hgd]
  rw [if_pos hw]
  have hrun := run_copy_row (P := P) w dT sT o.type elem g off dLen dCap ad sLen sCap cur t cs hu hsz hg hn hsrc hfit h1
  rw [hnew] at hrun
  unfold Oper.wp
  simp [execOp, ho, resolve, invoke, builtin, hd, hs, hrun, Result.andThen]
  exact h

/-- The numbers of the rounds, as the program's own table has them. -/
def ShaK (w : World) : Prop := Lib.TabIs Tryd.prog w "oubliette/sha.k" .u32 kTabI
theorem ShaK.cell {w : World} (h : ShaK w) (t : Nat) (ht : t < 64) : w.cell? ⟨4, t, none⟩ = some (.int .u32 (un (kT t))) := by
  rw [← kT_at t ht]
  exact Lib.TabIs.cell h (by kernel_rfl) t (by exact ht)
theorem ShaK.lt {w : World} (h : ShaK w) : 4 < w.heap.size := World.block_lt_of_cell? w _ (h.cell 0 (by decide))
theorem ShaK.mono {w w' : World} (h : ShaK w) (hb : Below w.heap.size w w') : ShaK w' := by
  have hlt := h.lt
  unfold ShaK Lib.TabIs World.var? at *
  rw [show Tryd.prog.globalNamed "oubliette/sha.k" = some 4 by kernel_rfl] at h ⊢
  simp only [Option.bind_some] at h ⊢
  rw [hb.block _ hlt]
  exact h
theorem quiet_same {P : Program} {f : FuncId} {args : Array Value} {w : World} {n : Nat} {v : Value}
    (h : Calls P f args (w.drewN n) fun e w' => e = .returned v ∧ w.drewN n = w') : Calls P f args (w.drewN n) fun e w'' => e = .returned v ∧ ∃ m, w'' = w.drewN m :=
  h.mono fun _ _ ⟨he, hm⟩ => ⟨he, n, hm.symm⟩
theorem quiet_rd {P : Program} {f : FuncId} {args : Array Value} {w : World} {n : Nat} {v : Value}
    (h : Calls P f args (w.drewN n) fun e w' => e = .returned v ∧ ∃ m, w' = (w.drewN n).drewN m) : Calls P f args (w.drewN n) fun e w'' => e = .returned v ∧ ∃ m, w'' = w.drewN m :=
  h.mono fun _ _ ⟨he, m, hm⟩ => ⟨he, n + m, by rw [hm, World.drewN_drewN]⟩
theorem run_index64 (ws : List UInt32) (t : Nat) (hl : ws.length = 64) (ht : t < 64) (w : World) : (Instr.index 153 (.agg (ws.map u32c).toArray) (.int .i64 (t : Int))).run Tryd.prog w = .ok (.int .u32 (un (ws.getD t 0))) w := by
  have hs : (sizeOf 152).run Tryd.prog w = .ok 1 w := by kernel_rfl
  have ha : ∀ x : Value, (x = .int .u32 (un (ws.getD t 0))) → (ws.map u32c).toArray[t]? = some x := fun x e => by
    rw [e]
    simp only [List.getElem?_toArray, List.getElem?_map]
    rw [List.getElem?_eq_getElem (by omega), List.getD_eq_getElem?_getD, List.getElem?_eq_getElem (by omega)]
    rfl
  have hp : (part 152 (ws.map u32c).toArray t).run Tryd.prog w = .ok (.int .u32 (un (ws.getD t 0))) w := by
    have hg : (ws.map u32c).toArray.getD t undef = .int .u32 (un (ws.getD t 0)) := by
      rw [Array.getD_eq_getD_getElem?, ha _ rfl]; rfl
    have hag : (isAgg 152).run Tryd.prog w = .ok false w := by kernel_rfl
    simp only [part, Sem.run_bind, hag, Result.andThen_ok]
    rw [ha _ rfl]
    rfl
  simp only [Instr.index, asIntOf, Sem.run_bind, Sem.run_pure, Result.andThen_ok, run_underlying Tryd.underlying153]
  rw [if_pos ⟨by omega, by exact_mod_cast ht⟩]
  simp only [Sem.run_bind, hs, Result.andThen_ok, Int.toNat_natCast, Nat.mul_one]
  exact hp

set_option maxRecDepth 100000 in
set_option maxHeartbeats 1000000 in
theorem block_core (s0 s1 s2 s3 s4 s5 s6 s7 : UInt32) (A : Option Addr) (c : Nat) (l : List UInt8) (w : World) (h : Bs w A 64 c l) (hK : ShaK w) :
    Calls Tryd.prog 166 #[.agg #[.int .u32 (un s0), .int .u32 (un s1), .int .u32 (un s2), .int .u32 (un s3), .int .u32 (un s4), .int .u32 (un s5), .int .u32 (un s6), .int .u32 (un s7)], .slice A 64 c] w fun e w' => e = .returned (.agg (blockH ⟨s0, s1, s2, s3, s4, s5, s6, s7⟩ l).cells.toArray) ∧ Below w.heap.size w w' := by
  have hcap := h.cap
  have hmax := h.max
  have HH := Lib.hid h; have HKT := Lib.hid hK; clear h hK
  obtain ⟨wl, hwl⟩ : ∃ wl, wl = ((w.alloc (.cells #[.int .u32 (un s0), .int .u32 (un s1), .int .u32 (un s2), .int .u32 (un s3), .int .u32 (un s4), .int .u32 (un s5), .int .u32 (un s6), .int .u32 (un s7)] 155)).alloc (.cells #[.int .u32 0, .int .u32 0, .int .u32 0, .int .u32 0, .int .u32 0, .int .u32 0, .int .u32 0, .int .u32 0] 155)).alloc (.cells #[.int .u32 (un s0), .int .u32 (un s1), .int .u32 (un s2), .int .u32 (un s3), .int .u32 (un s4), .int .u32 (un s5), .int .u32 (un s6), .int .u32 (un s7)] 155) := ⟨_, rfl⟩
  have HWL := Lib.hid hwl; clear hwl
  go_enter Tryd.func166, Tryd.ntmps166
  go_wp2_with fail
  rw [← HWL.out]
  have hz0 : wl.heap.size = w.heap.size + 1 + 1 + 1 := by rw [HWL.out]; simp
  have B0 : Hid (Blk wl w.heap.size 155 (H8.cells ⟨s0, s1, s2, s3, s4, s5, s6, s7⟩)) := by
    rw [HWL.out]; exact ((Blk.new w 155 _).alloc _).alloc _
  have B1 : Hid (Blk wl (w.heap.size + 1) 155 (reps 8 (.int .u32 0))) := by
    rw [HWL.out]; exact Blk.alloc (cs := reps 8 (.int .u32 0)) (heap_alloc2_new w _ _) _
  have B2 : Hid (Blk wl (w.heap.size + 1 + 1) 155 (H8.cells ⟨s0, s1, s2, s3, s4, s5, s6, s7⟩)) := by
    rw [HWL.out]
    have := heap_alloc2_new (w.alloc (.cells #[.int .u32 (un s0), .int .u32 (un s1), .int .u32 (un s2), .int .u32 (un s3), .int .u32 (un s4), .int .u32 (un s5), .int .u32 (un s6), .int .u32 (un s7)] 155)) (.cells #[.int .u32 0, .int .u32 0, .int .u32 0, .int .u32 0, .int .u32 0, .int .u32 0, .int .u32 0, .int .u32 0] 155) (.cells #[.int .u32 (un s0), .int .u32 (un s1), .int .u32 (un s2), .int .u32 (un s3), .int .u32 (un s4), .int .u32 (un s5), .int .u32 (un s6), .int .u32 (un s7)] 155)
    rw [show (w.alloc (.cells #[.int .u32 (un s0), .int .u32 (un s1), .int .u32 (un s2), .int .u32 (un s3), .int .u32 (un s4), .int .u32 (un s5), .int .u32 (un s6), .int .u32 (un s7)] 155)).heap.size = w.heap.size + 1 by simp] at this
    exact this
  have hbl : Below w.heap.size w wl := by rw [HWL.out]; exact (((Below.refl _ _).alloc (Nat.le_refl _) _).alloc (by simp) _).alloc (by simp; omega) _
  refine (words_any A c l wl (HH.out.mono hbl)).mono ?_
  rintro e w1 ⟨rfl, b1⟩
  have HB1 := Lib.hid (below_both hbl b1)
  have C0 := Lib.hid (B0.out.mono b1); have C1 := Lib.hid (B1.out.mono b1); have C2 := Lib.hid (B2.out.mono b1)
  have HZ0 := Lib.hid hz0
  clear hbl b1 hz0 B0 B1 B2
  have hwl64 := wTo_len l 64
  have HIX := Lib.hid (fun t ht w' => run_index64 (wTo l 64) t hwl64 ht w')
  have HBH : Hid (blockH ⟨s0, s1, s2, s3, s4, s5, s6, s7⟩ l = (rTo (wTo l 64) ⟨s0, s1, s2, s3, s4, s5, s6, s7⟩ 64).add ⟨s0, s1, s2, s3, s4, s5, s6, s7⟩) := rfl
  clear hwl64
  generalize hWS : ((wTo l 64).map u32c).toArray = WS at *
  clear hWS
  generalize wTo l 64 = ws at *
  go_wp2
  go_loopw [20] (fun i wr => ∃ t : Nat, t ≤ 64 ∧ i = .int .i64 t ∧ Blk wr w.heap.size 155 (rTo ws ⟨s0, s1, s2, s3, s4, s5, s6, s7⟩ t).cells ∧ Blk wr (w.heap.size + 1) 155 (reps 8 (.int .u32 0)) ∧ Blk wr (w.heap.size + 1 + 1) 155 (H8.cells ⟨s0, s1, s2, s3, s4, s5, s6, s7⟩) ∧ Below w.heap.size w wr) (fun i _ => 64 - (intOf i).toNat)
  case atStart => exact ⟨0, by omega, rfl, C0.out, C1.out, C2.out, HB1.out⟩
  case round =>
    obtain ⟨t, ht, rfl, hblk, hb1, hb2, hbel⟩ := hrel
    have D1 := Lib.hid hb1; have D2 := Lib.hid hb2; clear hb1 hb2
    by_cases hlt : t < 64
    · have hix := HIX.out t hlt
      have kc := (HKT.out.mono hbel).cell t hlt
      have HR : Hid (rTo ws ⟨s0, s1, s2, s3, s4, s5, s6, s7⟩ (t + 1) = rnd (kT t) (ws.getD t 0) (rTo ws ⟨s0, s1, s2, s3, s4, s5, s6, s7⟩ t)) := rfl
      generalize rTo ws ⟨s0, s1, s2, s3, s4, s5, s6, s7⟩ t = r at *
      generalize kT t = kt at *
      generalize ws.getD t 0 = wt at *
      obtain ⟨r0, r1, r2, r3, r4, r5, r6, r7⟩ := r
      have D0 := Lib.hid hblk
      have c0 : wr.cell? ⟨w.heap.size, 0, none⟩ = some (.int .u32 (un r0)) := by rw [hblk.cell]; rfl
      have c1 : wr.cell? ⟨w.heap.size, 1, none⟩ = some (.int .u32 (un r1)) := by rw [hblk.cell]; rfl
      have c2 : wr.cell? ⟨w.heap.size, 2, none⟩ = some (.int .u32 (un r2)) := by rw [hblk.cell]; rfl
      have c3 : wr.cell? ⟨w.heap.size, 3, none⟩ = some (.int .u32 (un r3)) := by rw [hblk.cell]; rfl
      have c4 : wr.cell? ⟨w.heap.size, 4, none⟩ = some (.int .u32 (un r4)) := by rw [hblk.cell]; rfl
      have c5 : wr.cell? ⟨w.heap.size, 5, none⟩ = some (.int .u32 (un r5)) := by rw [hblk.cell]; rfl
      have c6 : wr.cell? ⟨w.heap.size, 6, none⟩ = some (.int .u32 (un r6)) := by rw [hblk.cell]; rfl
      have c7 : wr.cell? ⟨w.heap.size, 7, none⟩ = some (.int .u32 (un r7)) := by rw [hblk.cell]; rfl
      have p0 : (0 : Int) ≤ (t : Int) := by omega
      have q0 : (t : Int) < 64 := by omega
      have CE : Hid (∀ (W : World), W.heap = wr.heap → ∀ (b i : Nat) (v : Value), wr.cell? ⟨b, i, none⟩ = some v → W.cell? ⟨b, i, none⟩ = some v) := fun W e b i v h => (World.cell?_of_block (by rw [e])).trans h
      clear hblk
      have e1 := w_add
      have e2 := w_xor
      have e3 := w_and
      have e4 := w_or
      go_wp2
      go_quiet (fail)
      obtain ⟨wA, hre⟩ : ∃ W0, W0 = (wr).drewN nq := ⟨_, rfl⟩
      rw [← hre]
      have HwA : Hid (wA.heap = wr.heap) := by rw [hre]; exact rfl
      have HBwA : Hid (Below w.heap.size w wA) := by rw [hre]; exact belowN hbel _
      clear hre
      have kcwA := CE.out wA HwA.out _ _ _ kc
      have c0wA := CE.out wA HwA.out _ _ _ c0
      have c1wA := CE.out wA HwA.out _ _ _ c1
      have c2wA := CE.out wA HwA.out _ _ _ c2
      have c3wA := CE.out wA HwA.out _ _ _ c3
      have c4wA := CE.out wA HwA.out _ _ _ c4
      have c5wA := CE.out wA HwA.out _ _ _ c5
      have c6wA := CE.out wA HwA.out _ _ _ c6
      have c7wA := CE.out wA HwA.out _ _ _ c7
      go_wp2
      go_quiet ((first | (go_at_call 176; with_reducible exact quiet_same (right6_any r4 _)) | (go_at_call 176; with_reducible exact quiet_same (right11_any r4 _)) | (go_at_call 176; with_reducible exact quiet_same (right25_any r4 _))))
      clear kcwA c0wA c1wA c2wA c3wA c4wA c5wA c6wA c7wA
      obtain ⟨wB, hre⟩ : ∃ W0, W0 = (wA).drewN nq := ⟨_, rfl⟩
      rw [← hre]
      have HwB : Hid (wB.heap = wr.heap) := by rw [hre]; exact HwA.out
      have HBwB : Hid (Below w.heap.size w wB) := by rw [hre]; exact belowN HBwA.out _
      clear hre
      have kcwB := CE.out wB HwB.out _ _ _ kc
      have c0wB := CE.out wB HwB.out _ _ _ c0
      have c1wB := CE.out wB HwB.out _ _ _ c1
      have c2wB := CE.out wB HwB.out _ _ _ c2
      have c3wB := CE.out wB HwB.out _ _ _ c3
      have c4wB := CE.out wB HwB.out _ _ _ c4
      have c5wB := CE.out wB HwB.out _ _ _ c5
      have c6wB := CE.out wB HwB.out _ _ _ c6
      have c7wB := CE.out wB HwB.out _ _ _ c7
      go_wp2
      go_quiet ((first | (go_at_call 176; with_reducible exact quiet_same (right2_any r0 _)) | (go_at_call 176; with_reducible exact quiet_same (right13_any r0 _)) | (go_at_call 176; with_reducible exact quiet_same (right22_any r0 _))))
      clear kcwB c0wB c1wB c2wB c3wB c4wB c5wB c6wB c7wB
      obtain ⟨wC, hre⟩ : ∃ W0, W0 = (wB).drewN nq := ⟨_, rfl⟩
      rw [← hre]
      have HwC : Hid (wC.heap = wr.heap) := by rw [hre]; exact HwB.out
      have HBwC : Hid (Below w.heap.size w wC) := by rw [hre]; exact belowN HBwB.out _
      clear hre
      have kcwC := CE.out wC HwC.out _ _ _ kc
      have c0wC := CE.out wC HwC.out _ _ _ c0
      have c1wC := CE.out wC HwC.out _ _ _ c1
      have c2wC := CE.out wC HwC.out _ _ _ c2
      have c3wC := CE.out wC HwC.out _ _ _ c3
      have c4wC := CE.out wC HwC.out _ _ _ c4
      have c5wC := CE.out wC HwC.out _ _ _ c5
      have c6wC := CE.out wC HwC.out _ _ _ c6
      have c7wC := CE.out wC HwC.out _ _ _ c7
      clear kc c0 c1 c2 c3 c4 c5 c6 c7 kcwC hix
      have hbkC : Hid (wC.heap[w.heap.size]? = some (.cells #[.int .u32 (un r0), .int .u32 (un r1), .int .u32 (un r2), .int .u32 (un r3), .int .u32 (un r4), .int .u32 (un r5), .int .u32 (un r6), .int .u32 (un r7)] 155 (0, 0))) := by rw [HwC.out]; exact D0.out
      have HSRC : Hid (∀ W : World, W.heap = wC.heap → ∀ j v, [Value.int .u32 (un r0), .int .u32 (un r1), .int .u32 (un r2), .int .u32 (un r3), .int .u32 (un r4), .int .u32 (un r5), .int .u32 (un r6)][j]? = some v → W.cell? ((⟨w.heap.size, 0, none⟩ : Addr).add j) = some v) := by
        intro W hW j v hv
        have hj : j < 7 := (List.getElem?_eq_some_iff.1 hv).1
        rw [add_flat, Nat.zero_add]
        have hb : Blk W w.heap.size 155 (H8.cells ⟨r0, r1, r2, r3, r4, r5, r6, r7⟩) := by unfold Blk; rw [hW]; exact hbkC.out
        rw [hb.cell]
        rw [← hv]
        show ([Value.int .u32 (un r0), .int .u32 (un r1), .int .u32 (un r2), .int .u32 (un r3), .int .u32 (un r4), .int .u32 (un r5), .int .u32 (un r6)] ++ [Value.int .u32 (un r7)])[j]? = _
        rw [List.getElem?_append_left hj]
      have HON : Hid (∀ v ∈ [Value.int .u32 (un r0), .int .u32 (un r1), .int .u32 (un r2), .int .u32 (un r3), .int .u32 (un r4), .int .u32 (un r5), .int .u32 (un r6)], v.oneCell' = true) := by
        intro v hv
        simp only [List.mem_cons, List.mem_nil_iff, or_false] at hv
        rcases hv with rfl | rfl | rfl | rfl | rfl | rfl | rfl <;> rfl
      go_wp2
      go_region_law (refine step_copy_row rfl (.tmp 77) (.tmp 78) 200 200 rfl 152 Tryd.underlying200 (by kernel_rfl) w.heap.size 1 7 7 ⟨w.heap.size, 0, none⟩ 7 8 rfl rfl #[.int .u32 (un r0), .int .u32 (un r1), .int .u32 (un r2), .int .u32 (un r3), .int .u32 (un r4), .int .u32 (un r5), .int .u32 (un r6), .int .u32 (un r7)] 155 (by exact hbkC.out) [.int .u32 (un r0), .int .u32 (un r1), .int .u32 (un r2), .int .u32 (un r3), .int .u32 (un r4), .int .u32 (un r5), .int .u32 (un r6)] rfl (by exact HSRC.out _ rfl) (Nat.le_refl _) HON.out #[.int .u32 (un r0), .int .u32 (un r0), .int .u32 (un r1), .int .u32 (un r2), .int .u32 (un r3), .int .u32 (un r4), .int .u32 (un r5), .int .u32 (un r6)] rfl ?_)
      obtain ⟨wD, hwD⟩ : ∃ wD, wD = wC.drew.setRow w.heap.size #[.int .u32 (un r0), .int .u32 (un r0), .int .u32 (un r1), .int .u32 (un r2), .int .u32 (un r3), .int .u32 (un r4), .int .u32 (un r5), .int .u32 (un r6)] := ⟨_, rfl⟩
      rw [← hwD]
      have hbD : Blk wD w.heap.size 155 [.int .u32 (un r0), .int .u32 (un r0), .int .u32 (un r1), .int .u32 (un r2), .int .u32 (un r3), .int .u32 (un r4), .int .u32 (un r5), .int .u32 (un r6)] := by
        rw [hwD]; exact setRow_heap wC.drew w.heap.size _ _ _ _ hbkC.out
      have hoth : ∀ b, b ≠ w.heap.size → wD.heap[b]? = wr.heap[b]? := by
        intro b hb
        rw [hwD]
        exact (setRow_other wC.drew w.heap.size b _ hb).trans (by show wC.heap[b]? = _; rw [HwC.out])
      have E1 : Hid (Blk wD (w.heap.size + 1) 155 (reps 8 (.int .u32 0))) := (hoth _ (by omega)).trans D1.out
      have E2 : Hid (Blk wD (w.heap.size + 1 + 1) 155 (H8.cells ⟨s0, s1, s2, s3, s4, s5, s6, s7⟩)) := (hoth _ (by omega)).trans D2.out
      have HBD : Hid (Below w.heap.size w wD) := by rw [hwD]; exact below_row HBwC.out.drew (Nat.le_refl _) _
      have f0 := hbD.free 0
      have f4 := hbD.free 4
      have g0 : wD.cell? ⟨w.heap.size, 0, none⟩ = some (.int .u32 (un r0)) := by rw [hbD.cell]; rfl
      have g4 : wD.cell? ⟨w.heap.size, 4, none⟩ = some (.int .u32 (un r3)) := by rw [hbD.cell]; rfl
      have E0 := Lib.hid hbD
      have e5 := w_add'
      clear hbD hoth hwD c0wC c1wC c2wC c3wC c4wC c5wC c6wC c7wC e1 e2 e3 e4
      go_wp2
      clear e5
      go_roundw
      case rel =>
        first
          | exact ⟨t + 1, by omega, by go_num, by rw [HR.out]; exact (E0.out.set 0 _).set 4 _, (E1.out.far (p := ⟨w.heap.size, 0, none⟩) (by simp) _).far (p := ⟨w.heap.size, 4, none⟩) (by simp) _, (E2.out.far (p := ⟨w.heap.size, 0, none⟩) (by simp; omega) _).far (p := ⟨w.heap.size, 4, none⟩) (by simp; omega) _, (HBD.out.setCell (p := ⟨w.heap.size, 0, none⟩) (Nat.le_refl _) _).setCell (p := ⟨w.heap.size, 4, none⟩) (Nat.le_refl _) _⟩
          | ((repeat apply Exists.intro); exact ⟨⟨t + 1, by omega, by go_num, by rw [HR.out]; exact (E0.out.set 0 _).set 4 _, (E1.out.far (p := ⟨w.heap.size, 0, none⟩) (by simp) _).far (p := ⟨w.heap.size, 4, none⟩) (by simp) _, (E2.out.far (p := ⟨w.heap.size, 0, none⟩) (by simp; omega) _).far (p := ⟨w.heap.size, 4, none⟩) (by simp; omega) _, (HBD.out.setCell (p := ⟨w.heap.size, 0, none⟩) (Nat.le_refl _) _).setCell (p := ⟨w.heap.size, 4, none⟩) (Nat.le_refl _) _⟩, rfl⟩)
      case measure => simp [intOf]; omega
    · obtain rfl : t = 64 := by omega
      have HM0 : Hid (Blk wr w.heap.size 155 (mixL (rTo ws ⟨s0, s1, s2, s3, s4, s5, s6, s7⟩ 64).ws ((rTo ws ⟨s0, s1, s2, s3, s4, s5, s6, s7⟩ 64).add ⟨s0, s1, s2, s3, s4, s5, s6, s7⟩).ws 0)) := by rw [mix_zero]; exact hblk
      have HLR : Hid ((rTo ws ⟨s0, s1, s2, s3, s4, s5, s6, s7⟩ 64).ws.length = 8) := rfl
      have HLT : Hid (((rTo ws ⟨s0, s1, s2, s3, s4, s5, s6, s7⟩ 64).add ⟨s0, s1, s2, s3, s4, s5, s6, s7⟩).ws.length = 8) := rfl
      have HAD := Lib.hid (add_at (rTo ws ⟨s0, s1, s2, s3, s4, s5, s6, s7⟩ 64) ⟨s0, s1, s2, s3, s4, s5, s6, s7⟩)
      have HTC : Hid (((rTo ws ⟨s0, s1, s2, s3, s4, s5, s6, s7⟩ 64).add ⟨s0, s1, s2, s3, s4, s5, s6, s7⟩).ws.map u32c = (blockH ⟨s0, s1, s2, s3, s4, s5, s6, s7⟩ l).cells) := by rw [HBH.out]; exact rfl
      clear hblk
      generalize (rTo ws ⟨s0, s1, s2, s3, s4, s5, s6, s7⟩ 64).ws = R at *
      generalize ((rTo ws ⟨s0, s1, s2, s3, s4, s5, s6, s7⟩ 64).add ⟨s0, s1, s2, s3, s4, s5, s6, s7⟩).ws = T at *
      obtain ⟨wo, rfl⟩ : ∃ wo : World, wo = wr := ⟨_, rfl⟩
      go_wp2
      go_loopw [90] (fun i wr => ∃ k : Nat, k ≤ 8 ∧ i = .int .i64 k ∧ Blk wr w.heap.size 155 (mixL R T k) ∧ Blk wr (w.heap.size + 1) 155 (reps 8 (.int .u32 0)) ∧ Blk wr (w.heap.size + 1 + 1) 155 (H8.cells ⟨s0, s1, s2, s3, s4, s5, s6, s7⟩) ∧ Below w.heap.size w wr) (fun i _ => 8 - (intOf i).toNat)
      case atStart => exact ⟨0, by omega, rfl, HM0.out, D1.out, D2.out, hbel⟩
      case round =>
        obtain ⟨k, hk, rfl, hblk, hb1, hb2, hbel⟩ := hrel
        have F0 := Lib.hid hblk; have F1 := Lib.hid hb1; have F2 := Lib.hid hb2
        by_cases hlt2 : k < 8
        · have c1 : wr.cell? ⟨w.heap.size, k, none⟩ = some (.int .u32 (un (R.getD k 0))) := by rw [hblk.cell]; exact mix_at R T HLR.out HLT.out k hlt2
          have c2 : wr.cell? ⟨w.heap.size + 1 + 1, k, none⟩ = some (.int .u32 (un (H8.ws ⟨s0, s1, s2, s3, s4, s5, s6, s7⟩ |>.getD k 0))) := by rw [hb2.cell]; exact ws_cell _ k hlt2
          have hf := hblk.free k
          have HS := Lib.hid (mix_set R T HLR.out HLT.out k hlt2)
          rw [HAD.out k hlt2] at HS
          generalize R.getD k 0 = x at *
          generalize (H8.ws ⟨s0, s1, s2, s3, s4, s5, s6, s7⟩ |>.getD k 0) = y at *
          have p0 : (0 : Int) ≤ (k : Int) := by omega
          have q0 : (k : Int) < 8 := by omega
          have e1 := w_add
          clear hblk hb1 hb2
          go_wp2
          go_region
          all_goals
            go_wp2
            go_roundw
            case rel =>
              first
                | exact ⟨k + 1, by omega, by go_num, by rw [← HS.out]; exact F0.out.set k _, F1.out.far (p := ⟨w.heap.size, k, none⟩) (by simp) _, F2.out.far (p := ⟨w.heap.size, k, none⟩) (by simp; omega) _, (hbel.setCell (p := ⟨w.heap.size, k, none⟩) (Nat.le_refl _) _).trans ⟨rfl, rfl, rfl, Nat.le_refl _, fun _ _ => rfl⟩⟩
                | ((repeat apply Exists.intro); exact ⟨⟨k + 1, by omega, by go_num, by rw [← HS.out]; exact F0.out.set k _, F1.out.far (p := ⟨w.heap.size, k, none⟩) (by simp) _, F2.out.far (p := ⟨w.heap.size, k, none⟩) (by simp; omega) _, (hbel.setCell (p := ⟨w.heap.size, k, none⟩) (Nat.le_refl _) _).trans ⟨rfl, rfl, rfl, Nat.le_refl _, fun _ _ => rfl⟩⟩, rfl⟩)
            case measure => simp [intOf]; omega
        · obtain rfl : k = 8 := by omega
          have HLL : Hid ((mixL R T 8).length = 8) := by rw [mix_all R T HLR.out HLT.out, List.length_map]; exact HLT.out
          have HRES : Hid (mixL R T 8 = (blockH ⟨s0, s1, s2, s3, s4, s5, s6, s7⟩ l).cells) := (mix_all R T HLR.out HLT.out).trans HTC.out
          have HONE : Hid ((mixL R T 8).toArray.all (·.oneCell') = true) := by rw [HRES.out]; exact all_one_words _
          have HNEW : Hid ((wr.setRow (w.heap.size + 1) (mixL R T 8).toArray).heap[w.heap.size + 1]? = some (.cells (mixL R T 8).toArray 155 (0, 0))) := setRow_heap wr (w.heap.size + 1) _ _ _ _ F1.out
          have HBW : Hid (Below w.heap.size w (wr.setRow (w.heap.size + 1) (mixL R T 8).toArray)) := below_row hbel (by omega) _
          clear hblk hb1 hb2
          go_wp2_with (first
            | (refine wpList_load_row rfl 155 (.tmp 2) rfl w.heap.size rfl 155 (mixL R T 8).toArray (0, 0) _ F0.out Tryd.underlying155 rfl (by rw [List.size_toArray, HLL.out]; kernel_rfl) ?_)
            | (refine wpList_store_row rfl 155 (.tmp 4) (.tmp 102) rfl (w.heap.size + 1) (mixL R T 8).toArray rfl rfl 155 (reps 8 (.int .u32 0)).toArray F1.out (by rw [List.size_toArray, HLL.out]; kernel_rfl) (by rw [List.size_toArray, List.size_toArray, HLL.out]; rfl) HONE.out ?_))
          exact bodyPost_ret (v := .agg (mixL R T 8).toArray) (results_cell_row Tryd.results166 _ _ (w.heap.size + 1) 155 _ (0, 0) _ rfl HNEW.out Tryd.underlying155 rfl (by rw [List.size_toArray, HLL.out]; kernel_rfl)) rfl ⟨by rw [HRES.out], HBW.out⟩
theorem block_any (s : H8) (A : Option Addr) (c : Nat) (l : List UInt8) (w : World) (h : Bs w A 64 c l) (hK : ShaK w) :
    Calls Tryd.prog 166 #[.agg s.cells.toArray, .slice A 64 c] w fun e w' => e = .returned (.agg (blockH s l).cells.toArray) ∧ Below w.heap.size w w' :=
  block_core s.a s.b s.c s.d s.e s.f s.g s.h A c l w h hK
end Go.Proofs.YtbmijjodpdbbmaaDoor
