import Derived.Test.YtbmijjodpdbbmaaDoorObChA
namespace Go.Proofs.YtbmijjodpdbbmaaDoor
open Go.RowKit
set_option linter.unusedVariables false

/-! ### chains of the reference: Light, SameChain -/
def lightK (n : Nat) (L : List Wr) : Bool := decide (n ≤ 100) && (decide (L.length ≤ 20) && L.all fun x => decide (x.r.n ≤ 100))
theorem allK_take (L : List Wr) (k : Nat) (x : Wr) (h : L[k]? = some x) : ((L.take (k + 1)).all fun x => decide (x.r.n ≤ 100)) = (((L.take k).all fun x => decide (x.r.n ≤ 100)) && decide (x.r.n ≤ 100)) := by
  have hk : k < L.length := (List.getElem?_eq_some_iff.1 h).1
  rw [List.getElem?_eq_getElem hk] at h
  injection h with h
  rw [List.take_succ_eq_append_getElem hk, List.all_append, h]
  simp
theorem allK_bad (L : List Wr) (k : Nat) (x : Wr) (h : L[k]? = some x) (hx : 100 < x.r.n) : (L.all fun x => decide (x.r.n ≤ 100)) = false := by
  rw [Bool.eq_false_iff]
  intro ha
  have := List.all_eq_true.1 ha x (List.mem_of_getElem? h)
  simp at this
  omega
set_option maxHeartbeats 1000000 in
theorem light22_any (p0 : Int) (A B : Option Addr) (n c m d : Nat) (L : List Wr) (w : World) (hn : n ≤ 9223372036854775807) (hL : Wrs w B m d L) :
    Calls Tryd.prog 10 #[.agg #[.int .i64 p0, .slice A n c, .slice B m d]] w fun e w' => e = .returned (.bool (lightK n L)) ∧ Below w.heap.size w w' := by
  have hmax := hL.2.1.max
  have hcap := hL.2.1.cap
  have hll := hL.1
  have hB : Below w.heap.size w (w.alloc (.cells #[.int .i64 p0, .slice A n c, .slice B m d] 25)) := (Below.refl _ _).alloc (Nat.le_refl _) _
  by_cases h1 : 100 < n
  · have e : lightK n L = false := by unfold lightK; rw [decide_eq_false (by omega)]; rfl
    rw [e]
    clear e hll
    go_enter Tryd.func10, Tryd.ntmps10
    go_wp2_with fail
    go_ret
    exact ⟨rfl, hB⟩
  · by_cases h2 : 20 < m
    · have e : lightK n L = false := by unfold lightK; rw [hll, decide_eq_false (show ¬ m ≤ 20 by omega)]; simp
      rw [e]
      clear e hll
      go_enter Tryd.func10, Tryd.ntmps10
      go_wp2_with fail
      go_ret
      exact ⟨rfl, hB⟩
    · have e : lightK n L = L.all fun x => decide (x.r.n ≤ 100) := by unfold lightK; rw [hll, decide_eq_true (show m ≤ 20 by omega), decide_eq_true (show n ≤ 100 by omega)]; rfl
      rw [e]
      have HL := Lib.hid (hL.mono hB); have HB := Lib.hid hB; have HLL := Lib.hid hll
      clear e hL hB hll
      go_enter Tryd.func10, Tryd.ntmps10
      go_wp2_with fail
      go_loop [3] (fun i => ∃ k : Nat, k ≤ m ∧ i = .int .i64 k ∧ ((L.take k).all fun x => decide (x.r.n ≤ 100)) = true) (fun i => m - (intOf i).toNat)
      case atStart => exact ⟨0, Nat.zero_le _, rfl, rfl⟩
      case round =>
        obtain ⟨k, hk, rfl, ha⟩ := hrel
        have HA := Lib.hid ha; clear ha
        by_cases hlt : k < m
        · obtain ⟨b, o, ⟨xp, xr⟩, rfl, hx, c1, c2, hrow, hp1, hp2⟩ := HL.out.row hlt
          simp only at c1 c2 hrow hp1 hp2
          have hxm := hrow.max
          have hxc := hrow.cap
          have HX := Lib.hid hx; clear hx hrow
          have hlt2 : (k : Int) < m := by omega
          by_cases h3 : 100 < xr.n
          · have HF := Lib.hid (allK_bad L k _ HX.out h3)
            go_wp2_with fail
            go_ret
            exact ⟨by rw [HF.out]; rfl, HB.out⟩
          · have HF : Hid (((L.take (k + 1)).all fun x => decide (x.r.n ≤ 100)) = true) := by
              show _ = _
              rw [allK_take L k _ HX.out, HA.out, decide_eq_true (show xr.n ≤ 100 by omega)]; rfl
            go_wp2_with fail
            go_round
            case rel => exact ⟨k + 1, by omega, by go_num, HF.out⟩
            case measure => simp [intOf]; omega
        · obtain rfl : k = m := by omega
          have HF : Hid ((L.all fun x => decide (x.r.n ≤ 100)) = true) := by
            have := HA.out
            rwa [List.take_of_length_le (by rw [HLL.out]; omega)] at this
          go_wp2_with fail
          go_ret
          exact ⟨by rw [HF.out]; rfl, HB.out⟩
end Go.Proofs.YtbmijjodpdbbmaaDoor
