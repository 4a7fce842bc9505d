/- Bytes as text, as the program says. No condition. -/
import Derived.Test.YtadenlhnfkccaaaDoorObHexL
import Derived.Test.YtadenlhnfkccaaaDoorObNum
import Derived.Test.YtadenlhnfkccaaaDoorObRows
import Derived.Test.YtadenlhnfkccaaaDoorObTch
import Derived.Outline
namespace Go.Proofs.YtadenlhnfkccaaaDoor
open Go.RowKit
set_option linter.unusedVariables false
set_option linter.unusedSimpArgs false
theorem digit_any (n : Nat) (h : n < 16) (w : World) : Calls Tryd.prog 70 #[.int .u8 (n : Int)] w fun e w' => e = .returned (u8c (hexD n)) ∧ w' = w := by
  have HD := Lib.hid (hexD_toNat h)
  have h1 : IntKind.u8.wrap (48 + (n : Int)) = 48 + n := wrap_u8 (by omega) (by omega)
  have h2 : IntKind.u8.wrap (97 + (n : Int)) = 97 + n := wrap_u8 (by omega) (by omega)
  have h3 : IntKind.u8.wrap (97 + (n : Int) - 10) = 87 + n := by rw [wrap_u8 (by omega) (by omega)]; omega
  by_cases h10 : n < 10
  · have t1 : decide ((n : Int) < 10) = true := decide_eq_true (by omega)
    have HF : Hid (u8c (hexD n) = .int .u8 (48 + (n : Int))) := by show _ = _; unfold u8c; rw [HD.out, if_pos h10]
    go_enter Tryd.func70, Tryd.ntmps70
    go_wp2
    go_ret
    exact ⟨by rw [HF.out]; simp [h1], rfl⟩
  · have t1 : decide ((n : Int) < 10) = false := decide_eq_false (by omega)
    have HF : Hid (u8c (hexD n) = .int .u8 (87 + (n : Int))) := by show _ = _; unfold u8c; rw [HD.out, if_neg h10]
    go_enter Tryd.func70, Tryd.ntmps70
    go_wp2
    go_ret
    exact ⟨by rw [HF.out]; rfl, rfl⟩
theorem value_any (c : UInt8) (w : World) : Calls Tryd.prog 73 #[u8c c] w fun e w' => e = .returned (.tuple #[.int .u8 (if hexV c < 16 then (hexV c : Int) else 0), .bool (decide (hexV c < 16))]) ∧ w' = w := by
  have hc := c.toNat_lt
  have hv := hexV_cases c
  obtain ⟨r, hr⟩ : ∃ r : Int, r = if hexV c < 16 then (hexV c : Int) else 0 := ⟨_, rfl⟩
  obtain ⟨b, hb⟩ : ∃ b, b = decide (hexV c < 16) := ⟨_, rfl⟩
  rw [← hr, ← hb]
  unfold u8c
  generalize hexV c = v at *
  generalize c.toNat = n at *
  by_cases h1 : 48 ≤ n
  · have t1 : decide ((n : Int) ≥ 48) = true := decide_eq_true (by omega)
    by_cases h2 : n ≤ 57
    · have t2 : decide ((n : Int) ≤ 57) = true := decide_eq_true (by omega)
      have h3 : IntKind.u8.wrap ((n : Int) - 48) = n - 48 := wrap_u8 (by omega) (by omega)
      have HR : Hid (r = (n : Int) - 48) := by show _ = _; rw [hr, if_pos (by omega)]; omega
      have HB : Hid (b = true) := by show _ = _; rw [hb]; exact decide_eq_true (by omega)
      clear hr hb hv
      go_enter Tryd.func73, Tryd.ntmps73
      go_wp2
      go_ret2
      exact ⟨by rw [HR.out, HB.out]; rfl, rfl⟩
    · have t2 : decide ((n : Int) ≤ 57) = false := decide_eq_false (by omega)
      by_cases h4 : 97 ≤ n
      · have t3 : decide ((n : Int) ≥ 97) = true := decide_eq_true (by omega)
        by_cases h5 : n ≤ 102
        · have t4 : decide ((n : Int) ≤ 102) = true := decide_eq_true (by omega)
          have h3 : IntKind.u8.wrap ((n : Int) - 97) = n - 97 := wrap_u8 (by omega) (by omega)
          have h6 : IntKind.u8.wrap ((n : Int) - 97 + 10) = n - 87 := by rw [wrap_u8 (by omega) (by omega)]; omega
          have HR : Hid (r = (n : Int) - 87) := by show _ = _; rw [hr, if_pos (by omega)]; omega
          have HB : Hid (b = true) := by show _ = _; rw [hb]; exact decide_eq_true (by omega)
          clear hr hb hv
          go_enter Tryd.func73, Tryd.ntmps73
          go_wp2
          go_ret2
          exact ⟨by rw [HR.out, HB.out]; rfl, rfl⟩
        · have t4 : decide ((n : Int) ≤ 102) = false := decide_eq_false (by omega)
          have HR : Hid (r = 0) := by show _ = _; rw [hr, if_neg (by omega)]
          have HB : Hid (b = false) := by show _ = _; rw [hb]; exact decide_eq_false (by omega)
          clear hr hb hv
          go_enter Tryd.func73, Tryd.ntmps73
          go_wp2
          go_ret2
          exact ⟨by rw [HR.out, HB.out]; rfl, rfl⟩
      · have t3 : decide ((n : Int) ≥ 97) = false := decide_eq_false (by omega)
        have HR : Hid (r = 0) := by show _ = _; rw [hr, if_neg (by omega)]
        have HB : Hid (b = false) := by show _ = _; rw [hb]; exact decide_eq_false (by omega)
        clear hr hb hv
        go_enter Tryd.func73, Tryd.ntmps73
        go_wp2
        go_ret2
        exact ⟨by rw [HR.out, HB.out]; rfl, rfl⟩
  · have t1 : decide ((n : Int) ≥ 48) = false := decide_eq_false (by omega)
    have t3 : decide ((n : Int) ≥ 97) = false := decide_eq_false (by omega)
    have HR : Hid (r = 0) := by show _ = _; rw [hr, if_neg (by omega)]
    have HB : Hid (b = false) := by show _ = _; rw [hb]; exact decide_eq_false (by omega)
    clear hr hb hv
    go_enter Tryd.func73, Tryd.ntmps73
    go_wp2
    go_ret2
    exact ⟨by rw [HR.out, HB.out]; rfl, rfl⟩
def hexDs : ByteArray := ⟨#[48, 49, 50, 51, 52, 53, 54, 55, 56, 57, 97, 98, 99, 100, 101, 102]⟩
theorem hexDs_fin : ∀ k : Fin 16, hexDs[k.1]'k.2 = hexD k.1 := by decide +kernel
theorem hexDs_at (k : Nat) (h : k < 16) : (⟨#[48, 49, 50, 51, 52, 53, 54, 55, 56, 57, 97, 98, 99, 100, 101, 102]⟩ : ByteArray)[k]'h = hexD k := hexDs_fin ⟨k, h⟩
theorem refValue_any (c : UInt8) (w : World) : Calls Tryd.prog 91 #[u8c c] w fun e w' => e = .returned (.int .i64 (if hexV c < 16 then (hexV c : Int) else -1)) ∧ w' = w := by
  obtain ⟨r, hr⟩ : ∃ r : Int, r = if hexV c < 16 then (hexV c : Int) else -1 := ⟨_, rfl⟩
  rw [← hr]
  have HR := Lib.hid hr
  clear hr
  unfold u8c
  go_enter Tryd.func91, Tryd.ntmps91
  go_wp2
  go_loopw [3] (fun i wr => ∃ k : Nat, k ≤ 16 ∧ i = .int .i64 k ∧ wr = w ∧ ∀ j, j < k → hexD j ≠ c) (fun i _ => 16 - (intOf i).toNat)
  case atStart => exact ⟨0, by omega, rfl, rfl, fun j h => by omega⟩
  case round =>
    obtain ⟨k, hk, rfl, rfl, hj⟩ := hrel
    have HJ := Lib.hid hj; clear hj
    by_cases hlt : k < 16
    · have t1 : decide ((k : Int) < 16) = true := decide_eq_true (by omega)
      have HAT := Lib.hid (hexDs_at k hlt)
      by_cases he : hexD k = c
      · have tb : ((((⟨#[48, 49, 50, 51, 52, 53, 54, 55, 56, 57, 97, 98, 99, 100, 101, 102]⟩ : ByteArray)[k]'hlt).toNat : Int) == (c.toNat : Int)) = true := by rw [HAT.out, he]; simp
        have HF : Hid (r = (k : Int)) := by
          show _ = _
          have : hexV c = k := by rw [← he]; exact hexV_hexD hlt
          rw [HR.out, this, if_pos hlt]
        clear he
        go_wp2
        go_ret
        exact ⟨by rw [HF.out]; rfl, rfl⟩
      · have tb : ((((⟨#[48, 49, 50, 51, 52, 53, 54, 55, 56, 57, 97, 98, 99, 100, 101, 102]⟩ : ByteArray)[k]'hlt).toNat : Int) == (c.toNat : Int)) = false := by
          rw [HAT.out]
          apply beq_eq_false_iff_ne.2
          intro e
          exact he (UInt8.toNat_inj.1 (by omega))
        have HN : Hid (∀ j, j < k + 1 → hexD j ≠ c) := fun j hj => by
          rcases Nat.lt_succ_iff_lt_or_eq.1 hj with h | rfl
          · exact HJ.out j h
          · exact he
        clear he
        go_wp2
        refine ⟨⟨k + 1, by omega, by first | trivial | go_num, by first | trivial | rfl, HN.out⟩, ?_⟩
        show 16 - ((k : Int) + 1).toNat < 16 - (k : Int).toNat
        omega
    · obtain rfl : k = 16 := by omega
      have HF : Hid (r = -1) := by
        show _ = _
        rw [HR.out, if_neg]
        intro h
        exact HJ.out _ h (hexD_hexV h)
      go_wp2
      go_ret
      exact ⟨by rw [HF.out]; rfl, rfl⟩
end Go.Proofs.YtadenlhnfkccaaaDoor
