import Derived.Test.YthlnoaalhojphaaGreatDoorObChG
import Derived.Test.YthlnoaalhojphaaGreatDoorObSha
import Derived.Deep.QuietTactic
import Derived.BigQuiet
namespace Go.Proofs.YthlnoaalhojphaaGreatDoor
open Go.RowKit
set_option linter.unusedVariables false

/-! ### SameChain: two chains alike -/
set_option maxRecDepth 100000 in
set_option maxHeartbeats 2000000 in
theorem sameChain_yes (p0 : Int) (A B A' B' : Option Addr) (n c m d c' d' : Nat) (cur : List UInt8) (L L' : List Wr) (w : World) (h1 : Bs w A n c cur) (h2 : Bs w A' n c' cur) (hL : Wrs w B m d L) (hL' : Wrs w B' m d' L') (hk : L'.map Wr.kk = L.map Wr.kk) (hm : m ≤ 1000) :
    Calls Tryz.prog 31 #[.agg #[.int .i64 p0, .slice A n c, .slice B m d], .agg #[.int .i64 p0, .slice A' n c', .slice B' m d']] w fun e w' => e = .returned (.bool true) ∧ Below w.heap.size w w' := by
  have hmax := hL.2.1.max
  have hcap := hL.2.1.cap
  have hmax' := hL'.2.1.max
  have hcap' := hL'.2.1.cap
  obtain ⟨W, hW⟩ : ∃ W, W = (w.alloc (.cells #[.int .i64 p0, .slice A n c, .slice B m d] 76)).alloc (.cells #[.int .i64 p0, .slice A' n c', .slice B' m d'] 76) := ⟨_, rfl⟩
  have hBW : Below w.heap.size w W := by rw [hW]; exact ((Below.refl _ _).alloc (Nat.le_refl _) _).alloc (by simp) _
  have hb1 : Blk W w.heap.size 76 [.int .i64 p0, .slice A n c, .slice B m d] := by rw [hW]; exact (Blk.new w 76 #[.int .i64 p0, .slice A n c, .slice B m d]).alloc _
  have hb2 : Blk W (w.heap.size + 1) 76 [.int .i64 p0, .slice A' n c', .slice B' m d'] := by rw [hW]; exact heap_alloc2_new w _ _
  have HS := Lib.hid (refSame_any A A' n n c c' cur cur W (h1.mono hBW) (h2.mono hBW))
  have HB1 := Lib.hid hb1; have HB2 := Lib.hid hb2; have HBW := Lib.hid hBW; have HW := Lib.hid hW; have HL := Lib.hid (hL.mono hBW); have HL' := Lib.hid (hL'.mono hBW); have HK := Lib.hid hk; have HLL := Lib.hid hL.1
  clear h1 h2 hL hL' hk hb1 hb2 hBW hW
  go_enter Tryz.func31, Tryz.ntmps31
  go_wp2_with fail
  rw [← HW.out]
  refine HS.out.mono ?_
  rintro e w1 ⟨rfl, q, rfl⟩
  rw [beq_self_eq_true]
  have BQ : Hid (Below W.heap.size W (W.drewN q)) := belowN (Below.refl _ _) q
  generalize W.drewN q = w1 at *
  have k1 : w1.cell? ⟨w.heap.size, 2, none⟩ = some (.slice B m d) := ((HB1.out.mono BQ.out).cell 2).trans rfl
  have k2 : w1.cell? ⟨w.heap.size + 1, 2, none⟩ = some (.slice B' m d') := ((HB2.out.mono BQ.out).cell 2).trans rfl
  go_wp2_with fail
  clear k1 k2
  go_loopw [5] (fun i wr => ∃ k : Nat, k ≤ m ∧ i = .int .i64 (k : Int) ∧ Below W.heap.size W wr) (fun i _ => m - (intOf i).toNat)
  case atStart => exact ⟨0, Nat.zero_le _, rfl, BQ.out⟩
  case round =>
    obtain ⟨k, hk, rfl, hb⟩ := hrel
    have k1 : wr.cell? ⟨w.heap.size, 2, none⟩ = some (.slice B m d) := ((HB1.out.mono hb).cell 2).trans rfl
    have k2 : wr.cell? ⟨w.heap.size + 1, 2, none⟩ = some (.slice B' m d') := ((HB2.out.mono hb).cell 2).trans rfl
    by_cases hlt : k < m
    · obtain ⟨b, o, ⟨xp, xr⟩, rfl, hx, c1, c2, hrow, hp1, hp2⟩ := (HL.out.mono hb).row hlt
      obtain ⟨b', o', ⟨xp', xr'⟩, rfl, hx', c1', c2', hrow', hp1', hp2'⟩ := (HL'.out.mono hb).row hlt
      simp only at c1 c2 hrow c1' c2' hrow'
      have he : xp' = xp ∧ xr'.l = xr.l := by
        have h := congrArg (fun l => l[k]?) HK.out
        simp only [List.getElem?_map, hx, hx', Option.map_some] at h
        injection h with h
        exact ⟨(Prod.mk.inj h).1, (Prod.mk.inj h).2⟩
      obtain ⟨rfl, hel⟩ := he
      have hRS : ∀ W', W'.heap = wr.heap → Calls Tryz.prog 30 #[.slice xr.a xr.n xr.c, .slice xr'.a xr'.n xr'.c] W' fun e w' => e = .returned (.bool true) ∧ ∃ k, w' = W'.drewN k := fun W' hW' => by
        have hbb : Below wr.heap.size wr ({ W' with os := wr.os, tape := wr.tape, output := wr.output } : World) := ⟨rfl, rfl, rfl, by show wr.heap.size ≤ W'.heap.size; rw [hW']; exact Nat.le_refl _, fun k _ => by show W'.heap[k]? = _; rw [hW']⟩
        have e1 : Bs W' xr.a xr.n xr.c xr.l := Sl.keepB hrow (fun b o _ => by rw [hW'])
        have e2 : Bs W' xr'.a xr'.n xr'.c xr'.l := Sl.keepB hrow' (fun b o _ => by rw [hW'])
        have := refSame_any xr.a xr'.a xr.n xr'.n xr.c xr'.c xr.l xr'.l W' e1 e2
        rw [hel, beq_self_eq_true] at this
        exact this
      have HRS := Lib.hid hRS; have HB := Lib.hid hb
      have hlt2 : (k : Int) < m := by omega
      have p0' : (0 : Int) ≤ k := by omega
      have tne : (xp' != xp') = false := by simp
      clear hx hx' hrow hrow' hel hRS hb
      go_wp2_with fail
      go_quiet ((go_at_call 30; exact quiet_rd (HRS.out _ rfl)))
      go_wp2_with fail
      go_roundw
      case rel => exact ⟨k + 1, by omega, by go_num, belowN HB.out _⟩
      case measure => simp [intOf]; omega
    · obtain rfl : k = m := by omega
      have HB := Lib.hid hb; clear hb
      go_wp2_with fail
      go_ret
      exact ⟨rfl, below_both HBW.out HB.out⟩
end Go.Proofs.YthlnoaalhojphaaGreatDoor
