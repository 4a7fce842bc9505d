/- Own texts of this claim, one behind the other. No condition. -/
import Derived.Test.YtfemhhjmfckicaaGreatDoorObPkB
import Derived.Test.YtfemhhjmfckicaaGreatDoorObPkE
import Derived.Test.YtfemhhjmfckicaaGreatDoorObPkF
import Derived.Laws.RangeAny
import Derived.Outline

/- Names: runes that may be, and parts: the program's and the reference's. No condition. -/
namespace Go.Proofs.YtfemhhjmfckicaaGreatDoor
open Go.RowKit
set_option linter.unusedVariables false
def upperR (r : Nat) : Bool := (decide (65 ≤ r) && decide (r ≤ 90)) || (decide (192 ≤ r) && decide (r ≤ 222) && decide (r ≠ 215))
def letterR (r : Nat) : Bool := upperR r || (decide (97 ≤ r) && decide (r ≤ 122)) || (decide (223 ≤ r) && decide (r ≤ 255) && decide (r ≠ 247))
theorem smallR_eq (r : Nat) : smallR r = ((decide (48 ≤ r) && decide (r ≤ 57)) || (letterR r && !upperR r)) := by
  rw [Bool.eq_iff_iff]
  simp [smallR, letterR, upperR]
  omega
theorem upper_any (r : Nat) (w : World) : Calls Tryz.prog 154 #[.int .i32 (r : Int)] w fun e w' => e = .returned (.bool (upperR r)) ∧ w = w' := by
  by_cases h1 : r < 65
  · skip
    have hv : upperR r = false := by simp [upperR] <;> omega
    rw [hv]
    clear hv
    go_enter Tryz.func154, Tryz.ntmps154
    go_wp2_with fail
    go_ret
    exact ⟨rfl, rfl⟩
  by_cases h2 : r ≤ 90
  · skip
    have hv : upperR r = true := by simp [upperR] <;> omega
    rw [hv]
    clear hv
    go_enter Tryz.func154, Tryz.ntmps154
    go_wp2_with fail
    go_ret
    exact ⟨rfl, rfl⟩
  have t90 : decide ((r : Int) ≤ 90) = false := decide_eq_false (by omega)
  by_cases h3 : r < 192
  · skip
    have hv : upperR r = false := by simp [upperR] <;> omega
    rw [hv]
    clear hv
    go_enter Tryz.func154, Tryz.ntmps154
    go_wp2_with fail
    go_ret
    exact ⟨rfl, rfl⟩
  by_cases h4 : 222 < r
  · have t222 : decide ((r : Int) ≤ 222) = false := decide_eq_false (by omega)
    have hv : upperR r = false := by simp [upperR] <;> omega
    rw [hv]
    clear hv
    go_enter Tryz.func154, Tryz.ntmps154
    go_wp2_with fail
    go_ret
    exact ⟨rfl, rfl⟩
  by_cases h5 : r = 215
  · subst h5
    have hv : upperR 215 = false := by decide
    rw [hv]
    go_enter Tryz.func154, Tryz.ntmps154
    go_wp2_with fail
    go_ret
    exact ⟨rfl, rfl⟩
  have hv : upperR r = true := by simp [upperR]; omega
  have tne : ((r : Int) != 215) = true := bne_iff_ne.2 (by omega)
  rw [hv]
  clear hv
  go_enter Tryz.func154, Tryz.ntmps154
  go_wp2_with fail
  go_ret
  exact ⟨rfl, rfl⟩
theorem refUpper_any (r : Nat) (w : World) : Calls Tryz.prog 159 #[.int .i32 (r : Int)] w fun e w' => e = .returned (.bool (upperR r)) ∧ w = w' := by
  by_cases h1 : r < 65
  · skip
    have hv : upperR r = false := by simp [upperR] <;> omega
    rw [hv]
    clear hv
    go_enter Tryz.func159, Tryz.ntmps159
    go_wp2_with fail
    go_ret
    exact ⟨rfl, rfl⟩
  by_cases h2 : r ≤ 90
  · skip
    have hv : upperR r = true := by simp [upperR] <;> omega
    rw [hv]
    clear hv
    go_enter Tryz.func159, Tryz.ntmps159
    go_wp2_with fail
    go_ret
    exact ⟨rfl, rfl⟩
  have t90 : decide ((r : Int) ≤ 90) = false := decide_eq_false (by omega)
  by_cases h3 : r < 192
  · skip
    have hv : upperR r = false := by simp [upperR] <;> omega
    rw [hv]
    clear hv
    go_enter Tryz.func159, Tryz.ntmps159
    go_wp2_with fail
    go_ret
    exact ⟨rfl, rfl⟩
  by_cases h4 : 222 < r
  · have t222 : decide ((r : Int) ≤ 222) = false := decide_eq_false (by omega)
    have hv : upperR r = false := by simp [upperR] <;> omega
    rw [hv]
    clear hv
    go_enter Tryz.func159, Tryz.ntmps159
    go_wp2_with fail
    go_ret
    exact ⟨rfl, rfl⟩
  by_cases h5 : r = 215
  · subst h5
    have hv : upperR 215 = false := by decide
    rw [hv]
    go_enter Tryz.func159, Tryz.ntmps159
    go_wp2_with fail
    go_ret
    exact ⟨rfl, rfl⟩
  have hv : upperR r = true := by simp [upperR]; omega
  have tne : ((r : Int) != 215) = true := bne_iff_ne.2 (by omega)
  rw [hv]
  clear hv
  go_enter Tryz.func159, Tryz.ntmps159
  go_wp2_with fail
  go_ret
  exact ⟨rfl, rfl⟩
/-- Letters: by where the number lies. -/
theorem letter_any (r : Nat) (w : World) : Calls Tryz.prog 153 #[.int .i32 (r : Int)] w fun e w' => e = .returned (.bool (letterR r)) ∧ w = w' := by
  have HU := Lib.hid (upper_any r w)
  cases hu : upperR r with
  | true =>
    rw [hu] at HU
    have hv : letterR r = true := by unfold letterR; rw [hu]; rfl
    rw [hv]
    clear hv hu
    go_enter Tryz.func153, Tryz.ntmps153
    go_wp2_with fail
    refine HU.out.mono ?_
    rintro e w1 ⟨rfl, h1⟩
    obtain rfl : w = w1 := h1
    go_wp2_with fail
    go_ret
    exact ⟨rfl, rfl⟩
  | false =>
    rw [hu] at HU
    have hv : letterR r = ((decide (97 ≤ r) && decide (r ≤ 122)) || (decide (223 ≤ r) && decide (r ≤ 255) && decide (r ≠ 247))) := by unfold letterR; rw [hu, Bool.false_or]
    rw [hv]
    clear hv hu
    have HLB : Hid (∀ b : Bool, ((decide (97 ≤ r) && decide (r ≤ 122)) || (decide (223 ≤ r) && decide (r ≤ 255) && decide (r ≠ 247))) = b → Calls Tryz.prog 153 #[.int .i32 (r : Int)] w fun e w' => e = .returned (.bool b) ∧ w = w') := by
      intro b hb
      by_cases h0 : r = 247
      · subst h0
        obtain rfl : b = false := by rw [← hb]; decide
        clear hb
        go_enter Tryz.func153, Tryz.ntmps153
        go_wp2_with fail
        refine HU.out.mono ?_
        rintro e w1 ⟨rfl, h1⟩
        obtain rfl : w = w1 := h1
        go_wp2_with fail
        go_ret
        exact ⟨rfl, rfl⟩
      have teq : ((r : Int) == 247) = false := beq_eq_false_iff_ne.2 (by omega)
      by_cases h1 : r < 97
      · obtain rfl : b = false := by rw [← hb]; simp; omega
        clear hb
        go_enter Tryz.func153, Tryz.ntmps153
        go_wp2_with fail
        refine HU.out.mono ?_
        rintro e w1 ⟨rfl, h1⟩
        obtain rfl : w = w1 := h1
        go_wp2_with fail
        go_ret
        exact ⟨rfl, rfl⟩
      by_cases h2 : r ≤ 122
      · obtain rfl : b = true := by rw [← hb]; simp; omega
        clear hb
        go_enter Tryz.func153, Tryz.ntmps153
        go_wp2_with fail
        refine HU.out.mono ?_
        rintro e w1 ⟨rfl, h1⟩
        obtain rfl : w = w1 := h1
        go_wp2_with fail
        go_ret
        exact ⟨rfl, rfl⟩
      have t122 : decide ((r : Int) ≤ 122) = false := decide_eq_false (by omega)
      by_cases h3 : r < 223
      · obtain rfl : b = false := by rw [← hb]; simp; omega
        clear hb
        go_enter Tryz.func153, Tryz.ntmps153
        go_wp2_with fail
        refine HU.out.mono ?_
        rintro e w1 ⟨rfl, h1⟩
        obtain rfl : w = w1 := h1
        go_wp2_with fail
        go_ret
        exact ⟨rfl, rfl⟩
      by_cases h4 : r ≤ 255
      · have t255 : decide ((r : Int) ≤ 255) = true := decide_eq_true (by omega)
        obtain rfl : b = true := by rw [← hb]; simp; omega
        clear hb
        go_enter Tryz.func153, Tryz.ntmps153
        go_wp2_with fail
        refine HU.out.mono ?_
        rintro e w1 ⟨rfl, h1⟩
        obtain rfl : w = w1 := h1
        go_wp2_with fail
        go_ret
        exact ⟨rfl, rfl⟩
      have t255 : decide ((r : Int) ≤ 255) = false := decide_eq_false (by omega)
      obtain rfl : b = false := by rw [← hb]; simp; omega
      clear hb
      go_enter Tryz.func153, Tryz.ntmps153
      go_wp2_with fail
      refine HU.out.mono ?_
      rintro e w1 ⟨rfl, h1⟩
      obtain rfl : w = w1 := h1
      go_wp2_with fail
      go_ret
      exact ⟨rfl, rfl⟩
    exact HLB.out _ rfl
/-- Letters: by where the number lies. -/
theorem refLetter_any (r : Nat) (w : World) : Calls Tryz.prog 158 #[.int .i32 (r : Int)] w fun e w' => e = .returned (.bool (letterR r)) ∧ w = w' := by
  have HU := Lib.hid (refUpper_any r w)
  cases hu : upperR r with
  | true =>
    rw [hu] at HU
    have hv : letterR r = true := by unfold letterR; rw [hu]; rfl
    rw [hv]
    clear hv hu
    go_enter Tryz.func158, Tryz.ntmps158
    go_wp2_with fail
    refine HU.out.mono ?_
    rintro e w1 ⟨rfl, h1⟩
    obtain rfl : w = w1 := h1
    go_wp2_with fail
    go_ret
    exact ⟨rfl, rfl⟩
  | false =>
    rw [hu] at HU
    have hv : letterR r = ((decide (97 ≤ r) && decide (r ≤ 122)) || (decide (223 ≤ r) && decide (r ≤ 255) && decide (r ≠ 247))) := by unfold letterR; rw [hu, Bool.false_or]
    rw [hv]
    clear hv hu
    have HLB : Hid (∀ b : Bool, ((decide (97 ≤ r) && decide (r ≤ 122)) || (decide (223 ≤ r) && decide (r ≤ 255) && decide (r ≠ 247))) = b → Calls Tryz.prog 158 #[.int .i32 (r : Int)] w fun e w' => e = .returned (.bool b) ∧ w = w') := by
      intro b hb
      by_cases h0 : r = 247
      · subst h0
        obtain rfl : b = false := by rw [← hb]; decide
        clear hb
        go_enter Tryz.func158, Tryz.ntmps158
        go_wp2_with fail
        refine HU.out.mono ?_
        rintro e w1 ⟨rfl, h1⟩
        obtain rfl : w = w1 := h1
        go_wp2_with fail
        go_ret
        exact ⟨rfl, rfl⟩
      have teq : ((r : Int) != 247) = true := bne_iff_ne.2 (by omega)
      by_cases h1 : r < 97
      · obtain rfl : b = false := by rw [← hb]; simp; omega
        clear hb
        go_enter Tryz.func158, Tryz.ntmps158
        go_wp2_with fail
        refine HU.out.mono ?_
        rintro e w1 ⟨rfl, h1⟩
        obtain rfl : w = w1 := h1
        go_wp2_with fail
        go_ret
        exact ⟨rfl, rfl⟩
      by_cases h2 : r ≤ 122
      · obtain rfl : b = true := by rw [← hb]; simp; omega
        clear hb
        go_enter Tryz.func158, Tryz.ntmps158
        go_wp2_with fail
        refine HU.out.mono ?_
        rintro e w1 ⟨rfl, h1⟩
        obtain rfl : w = w1 := h1
        go_wp2_with fail
        go_ret
        exact ⟨rfl, rfl⟩
      have t122 : decide ((r : Int) ≤ 122) = false := decide_eq_false (by omega)
      by_cases h3 : r < 223
      · obtain rfl : b = false := by rw [← hb]; simp; omega
        clear hb
        go_enter Tryz.func158, Tryz.ntmps158
        go_wp2_with fail
        refine HU.out.mono ?_
        rintro e w1 ⟨rfl, h1⟩
        obtain rfl : w = w1 := h1
        go_wp2_with fail
        go_ret
        exact ⟨rfl, rfl⟩
      by_cases h4 : r ≤ 255
      · have t255 : decide ((r : Int) ≤ 255) = true := decide_eq_true (by omega)
        obtain rfl : b = true := by rw [← hb]; simp; omega
        clear hb
        go_enter Tryz.func158, Tryz.ntmps158
        go_wp2_with fail
        refine HU.out.mono ?_
        rintro e w1 ⟨rfl, h1⟩
        obtain rfl : w = w1 := h1
        go_wp2_with fail
        go_ret
        exact ⟨rfl, rfl⟩
      have t255 : decide ((r : Int) ≤ 255) = false := decide_eq_false (by omega)
      obtain rfl : b = false := by rw [← hb]; simp; omega
      clear hb
      go_enter Tryz.func158, Tryz.ntmps158
      go_wp2_with fail
      refine HU.out.mono ?_
      rintro e w1 ⟨rfl, h1⟩
      obtain rfl : w = w1 := h1
      go_wp2_with fail
      go_ret
      exact ⟨rfl, rfl⟩
    exact HLB.out _ rfl
theorem small_any (r : Nat) (w : World) : Calls Tryz.prog 122 #[.int .i32 (r : Int)] w fun e w' => e = .returned (.bool (smallR r)) ∧ w = w' := by
  have HL := Lib.hid (letter_any r w)
  have HU := Lib.hid (upper_any r w)
  rw [smallR_eq]
  by_cases h0 : 48 ≤ r ∧ r ≤ 57
  · have hv : ((decide (48 ≤ r) && decide (r ≤ 57)) || (letterR r && !upperR r)) = true := by rw [decide_eq_true h0.1, decide_eq_true h0.2]; rfl
    obtain ⟨h1, h2⟩ := h0
    rw [hv]
    clear hv
    go_enter Tryz.func122, Tryz.ntmps122
    go_wp2_with fail
    go_ret
    exact ⟨rfl, rfl⟩
  have hv : ((decide (48 ≤ r) && decide (r ≤ 57)) || (letterR r && !upperR r)) = (letterR r && !upperR r) := by
    have : (decide (48 ≤ r) && decide (r ≤ 57)) = false := by simp; omega
    rw [this, Bool.false_or]
  rw [hv]
  clear hv
  generalize letterR r = a at *
  generalize upperR r = b at *
  by_cases h1 : r < 48
  · cases a with
    | false =>
      go_enter Tryz.func122, Tryz.ntmps122
      go_wp2_with fail
      refine HL.out.mono ?_
      rintro e w1 ⟨rfl, h1⟩
      obtain rfl : w = w1 := h1
      go_wp2_with fail
      go_ret
      exact ⟨rfl, rfl⟩
    | true =>
      go_enter Tryz.func122, Tryz.ntmps122
      go_wp2_with fail
      refine HL.out.mono ?_
      rintro e w1 ⟨rfl, h1⟩
      obtain rfl : w = w1 := h1
      go_wp2_with fail
      refine HU.out.mono ?_
      rintro e w2 ⟨rfl, h2⟩
      obtain rfl : w = w2 := h2
      go_wp2_with fail
      go_ret
      exact ⟨rfl, rfl⟩
  · have t57 : decide ((r : Int) ≤ 57) = false := decide_eq_false (by omega)
    cases a with
    | false =>
      go_enter Tryz.func122, Tryz.ntmps122
      go_wp2_with fail
      refine HL.out.mono ?_
      rintro e w1 ⟨rfl, h1⟩
      obtain rfl : w = w1 := h1
      go_wp2_with fail
      go_ret
      exact ⟨rfl, rfl⟩
    | true =>
      go_enter Tryz.func122, Tryz.ntmps122
      go_wp2_with fail
      refine HL.out.mono ?_
      rintro e w1 ⟨rfl, h1⟩
      obtain rfl : w = w1 := h1
      go_wp2_with fail
      refine HU.out.mono ?_
      rintro e w2 ⟨rfl, h2⟩
      obtain rfl : w = w2 := h2
      go_wp2_with fail
      go_ret
      exact ⟨rfl, rfl⟩
theorem refSmall_any (r : Nat) (w : World) : Calls Tryz.prog 126 #[.int .i32 (r : Int)] w fun e w' => e = .returned (.bool (smallR r)) ∧ w = w' := by
  have HL := Lib.hid (refLetter_any r w)
  have HU := Lib.hid (refUpper_any r w)
  rw [smallR_eq]
  by_cases h0 : 48 ≤ r ∧ r ≤ 57
  · have hv : ((decide (48 ≤ r) && decide (r ≤ 57)) || (letterR r && !upperR r)) = true := by rw [decide_eq_true h0.1, decide_eq_true h0.2]; rfl
    obtain ⟨h1, h2⟩ := h0
    rw [hv]
    clear hv
    go_enter Tryz.func126, Tryz.ntmps126
    go_wp2_with fail
    go_ret
    exact ⟨rfl, rfl⟩
  have hv : ((decide (48 ≤ r) && decide (r ≤ 57)) || (letterR r && !upperR r)) = (letterR r && !upperR r) := by
    have : (decide (48 ≤ r) && decide (r ≤ 57)) = false := by simp; omega
    rw [this, Bool.false_or]
  rw [hv]
  clear hv
  generalize letterR r = a at *
  generalize upperR r = b at *
  by_cases h1 : r < 48
  · cases a with
    | false =>
      go_enter Tryz.func126, Tryz.ntmps126
      go_wp2_with fail
      refine HL.out.mono ?_
      rintro e w1 ⟨rfl, h1⟩
      obtain rfl : w = w1 := h1
      go_wp2_with fail
      go_ret
      exact ⟨rfl, rfl⟩
    | true =>
      go_enter Tryz.func126, Tryz.ntmps126
      go_wp2_with fail
      refine HL.out.mono ?_
      rintro e w1 ⟨rfl, h1⟩
      obtain rfl : w = w1 := h1
      go_wp2_with fail
      refine HU.out.mono ?_
      rintro e w2 ⟨rfl, h2⟩
      obtain rfl : w = w2 := h2
      go_wp2_with fail
      go_ret
      exact ⟨rfl, rfl⟩
  · have t57 : decide ((r : Int) ≤ 57) = false := decide_eq_false (by omega)
    cases a with
    | false =>
      go_enter Tryz.func126, Tryz.ntmps126
      go_wp2_with fail
      refine HL.out.mono ?_
      rintro e w1 ⟨rfl, h1⟩
      obtain rfl : w = w1 := h1
      go_wp2_with fail
      go_ret
      exact ⟨rfl, rfl⟩
    | true =>
      go_enter Tryz.func126, Tryz.ntmps126
      go_wp2_with fail
      refine HL.out.mono ?_
      rintro e w1 ⟨rfl, h1⟩
      obtain rfl : w = w1 := h1
      go_wp2_with fail
      refine HU.out.mono ?_
      rintro e w2 ⟨rfl, h2⟩
      obtain rfl : w = w2 := h2
      go_wp2_with fail
      go_ret
      exact ⟨rfl, rfl⟩
end Go.Proofs.YtfemhhjmfckicaaGreatDoor
