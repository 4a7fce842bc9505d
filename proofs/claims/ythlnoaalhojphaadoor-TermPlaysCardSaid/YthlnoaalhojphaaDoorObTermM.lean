/- Acts: are they light? No condition. -/
import Derived.Test.YthlnoaalhojphaaDoorObActs
namespace Go.Proofs.YthlnoaalhojphaaDoor
open Go.RowKit
set_option linter.unusedVariables false
set_option maxHeartbeats 400000 in
theorem light15_any (A : Option Addr) (n c : Nat) (L : List Ac) (w : World) (h : Rs Ac.cells 4 w A n c L) (hok : ∀ x ∈ L, x.ok) :
    Calls Tryd.prog 8 #[.slice A n c] w fun e w' => e = .returned (.bool (lightA L)) ∧ w = w' := by
  have hl := h.1
  have hmax := h.max
  have hcap := h.cap
  by_cases h30 : 60 < n
  · have t1 : decide (60 < (n : Int)) = true := by simp; omega
    have HE : Hid (lightA L = false) := by show _ = _; unfold lightA; rw [decide_eq_false (by omega)]; simp
    clear h hl hok
    go_enter Tryd.func8, Tryd.ntmps8
    go_wp2
    go_ret
    exact ⟨ret_bool HE.out.symm, rfl⟩
  · have t1 : decide (60 < (n : Int)) = false := by simp; omega
    have HL := Lib.hid hl; clear hl
    have HH := Lib.hid h; clear h
    have HOK := Lib.hid hok; clear hok
    go_enter Tryd.func8, Tryd.ntmps8
    go_wp2
    clear t1
    go_loop [3] (fun i => ∃ k : Nat, k ≤ n ∧ i = .int .i64 k ∧ ((L.take k).all fun x => decide (x.s.size ≤ 40)) = true) (fun i => n - (Go.RowKit.intOf i).toNat)
    case atStart => exact ⟨0, Nat.zero_le _, rfl, rfl⟩
    case round =>
      obtain ⟨k, hk, rfl, hall⟩ := hrel
      have HALL := Lib.hid hall; clear hall
      by_cases hlt : k < n
      · obtain ⟨b, o, x, rfl, hx, c0, c1, c2, c3⟩ := Ac.row HH.out hlt
        have HX := Lib.hid hx; clear hx
        obtain ⟨_, _, _, o3⟩ := HOK.out x (List.mem_of_getElem? HX.out)
        unfold maxLen at o3
        by_cases hg : 40 < x.s.size
        · have HE : Hid (lightA L = false) := by
            show _ = _; unfold lightA; rw [all_bad _ L k x HX.out (by simp; omega)]; simp
          have t1 : decide (40 < (x.s.size : Int)) = true := by simp; omega
          go_wp2
          go_ret
          exact ⟨ret_bool HE.out.symm, rfl⟩
        · have t1 : decide (40 < (x.s.size : Int)) = false := by simp; omega
          go_wp2
          go_round
          case rel => exact ⟨k + 1, by omega, by go_num, by rw [all_take _ L k x HX.out, HALL.out]; simp; omega⟩
          case measure => simp [Go.RowKit.intOf]; omega
      · obtain rfl : n = k := by omega
        have HE : Hid (lightA L = true) := by
          have h := HALL.out
          rw [List.take_of_length_le (by rw [HL.out]; omega)] at h
          show _ = _
          unfold lightA
          rw [h, HL.out, decide_eq_true (by omega)]; rfl
        go_wp2
        go_ret
        exact ⟨ret_bool HE.out.symm, rfl⟩
end Go.Proofs.YthlnoaalhojphaaDoor
