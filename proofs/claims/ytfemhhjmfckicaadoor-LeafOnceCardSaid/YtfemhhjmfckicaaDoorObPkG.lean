/- Own texts of this claim, one behind the other. No condition. -/
import Derived.Test.YtfemhhjmfckicaaDoorObPkB
import Derived.Test.YtfemhhjmfckicaaDoorObPkC
import Derived.Test.YtfemhhjmfckicaaDoorObPkE
import Derived.Test.YtfemhhjmfckicaaDoorObPkF
import Derived.Laws.RangeAny
import Derived.Outline
import Derived.Deep.DeepCutAuto

/- Names: runes that may be, and parts: the program's and the reference's. No condition. -/
namespace Go.Proofs.YtfemhhjmfckicaaDoor
open Go.RowKit
set_option linter.unusedVariables false
def upperR (r : Nat) : Bool := (decide (65 ≤ r) && decide (r ≤ 90)) || (decide (192 ≤ r) && decide (r ≤ 222) && decide (r ≠ 215))
def letterR (r : Nat) : Bool := upperR r || (decide (97 ≤ r) && decide (r ≤ 122)) || (decide (223 ≤ r) && decide (r ≤ 255) && decide (r ≠ 247))
theorem smallR_eq (r : Nat) : smallR r = ((decide (48 ≤ r) && decide (r ≤ 57)) || (letterR r && !upperR r)) := by
  rw [Bool.eq_iff_iff]
  simp [smallR, letterR, upperR]
  omega
theorem upper_any (r : Nat) (w : World) : Calls Tryd.prog 135 #[.int .i32 (r : Int)] w fun e w' => e = .returned (.bool (upperR r)) ∧ w = w' := by
  by_cases h1 : r < 65
  · skip
    have hv : upperR r = false := by simp [upperR] <;> omega
    rw [hv]
    clear hv
    go_enter Tryd.func135, Tryd.ntmps135
    go_wp2_with fail
    go_ret
    exact ⟨rfl, rfl⟩
  by_cases h2 : r ≤ 90
  · skip
    have hv : upperR r = true := by simp [upperR] <;> omega
    rw [hv]
    clear hv
    go_enter Tryd.func135, Tryd.ntmps135
    go_wp2_with fail
    go_ret
    exact ⟨rfl, rfl⟩
  have t90 : decide ((r : Int) ≤ 90) = false := decide_eq_false (by omega)
  by_cases h3 : r < 192
  · skip
    have hv : upperR r = false := by simp [upperR] <;> omega
    rw [hv]
    clear hv
    go_enter Tryd.func135, Tryd.ntmps135
    go_wp2_with fail
    go_ret
    exact ⟨rfl, rfl⟩
  by_cases h4 : 222 < r
  · have t222 : decide ((r : Int) ≤ 222) = false := decide_eq_false (by omega)
    have hv : upperR r = false := by simp [upperR] <;> omega
    rw [hv]
    clear hv
    go_enter Tryd.func135, Tryd.ntmps135
    go_wp2_with fail
    go_ret
    exact ⟨rfl, rfl⟩
  by_cases h5 : r = 215
  · subst h5
    have hv : upperR 215 = false := by decide
    rw [hv]
    go_enter Tryd.func135, Tryd.ntmps135
    go_wp2_with fail
    go_ret
    exact ⟨rfl, rfl⟩
  have hv : upperR r = true := by simp [upperR]; omega
  have tne : ((r : Int) != 215) = true := bne_iff_ne.2 (by omega)
  rw [hv]
  clear hv
  go_enter Tryd.func135, Tryd.ntmps135
  go_wp2_with fail
  go_ret
  exact ⟨rfl, rfl⟩
/-- Letters: by where the number lies. -/
theorem letter_any (r : Nat) (w : World) : Calls Tryd.prog 134 #[.int .i32 (r : Int)] w fun e w' => e = .returned (.bool (letterR r)) ∧ w = w' := by
  have HU := Lib.hid (upper_any r w)
  cases hu : upperR r with
  | true =>
    rw [hu] at HU
    have hv : letterR r = true := by unfold letterR; rw [hu]; rfl
    rw [hv]
    clear hv hu
    go_enter Tryd.func134, Tryd.ntmps134
    go_wp2_with fail
    refine HU.out.mono ?_
    rintro e w1 ⟨rfl, h1⟩
    obtain rfl : w = w1 := h1
    go_wp2_with fail
    go_ret
    exact ⟨rfl, rfl⟩
  | false =>
    rw [hu] at HU
    have hv : letterR r = ((decide (97 ≤ r) && decide (r ≤ 122)) || (decide (223 ≤ r) && decide (r ≤ 255) && decide (r ≠ 247))) := by unfold letterR; rw [hu, Bool.false_or]
    rw [hv]
    clear hv hu
    have HLB : Hid (∀ b : Bool, ((decide (97 ≤ r) && decide (r ≤ 122)) || (decide (223 ≤ r) && decide (r ≤ 255) && decide (r ≠ 247))) = b → Calls Tryd.prog 134 #[.int .i32 (r : Int)] w fun e w' => e = .returned (.bool b) ∧ w = w') := by
      intro b hb
      by_cases h0 : r = 247
      · subst h0
        obtain rfl : b = false := by rw [← hb]; decide
        clear hb
        go_enter Tryd.func134, Tryd.ntmps134
        go_wp2_with fail
        refine HU.out.mono ?_
        rintro e w1 ⟨rfl, h1⟩
        obtain rfl : w = w1 := h1
        go_wp2_with fail
        go_ret
        exact ⟨rfl, rfl⟩
      have teq : ((r : Int) == 247) = false := beq_eq_false_iff_ne.2 (by omega)
      by_cases h1 : r < 97
      · obtain rfl : b = false := by rw [← hb]; simp; omega
        clear hb
        go_enter Tryd.func134, Tryd.ntmps134
        go_wp2_with fail
        refine HU.out.mono ?_
        rintro e w1 ⟨rfl, h1⟩
        obtain rfl : w = w1 := h1
        go_wp2_with fail
        go_ret
        exact ⟨rfl, rfl⟩
      by_cases h2 : r ≤ 122
      · obtain rfl : b = true := by rw [← hb]; simp; omega
        clear hb
        go_enter Tryd.func134, Tryd.ntmps134
        go_wp2_with fail
        refine HU.out.mono ?_
        rintro e w1 ⟨rfl, h1⟩
        obtain rfl : w = w1 := h1
        go_wp2_with fail
        go_ret
        exact ⟨rfl, rfl⟩
      have t122 : decide ((r : Int) ≤ 122) = false := decide_eq_false (by omega)
      by_cases h3 : r < 223
      · obtain rfl : b = false := by rw [← hb]; simp; omega
        clear hb
        go_enter Tryd.func134, Tryd.ntmps134
        go_wp2_with fail
        refine HU.out.mono ?_
        rintro e w1 ⟨rfl, h1⟩
        obtain rfl : w = w1 := h1
        go_wp2_with fail
        go_ret
        exact ⟨rfl, rfl⟩
      by_cases h4 : r ≤ 255
      · have t255 : decide ((r : Int) ≤ 255) = true := decide_eq_true (by omega)
        obtain rfl : b = true := by rw [← hb]; simp; omega
        clear hb
        go_enter Tryd.func134, Tryd.ntmps134
        go_wp2_with fail
        refine HU.out.mono ?_
        rintro e w1 ⟨rfl, h1⟩
        obtain rfl : w = w1 := h1
        go_wp2_with fail
        go_ret
        exact ⟨rfl, rfl⟩
      have t255 : decide ((r : Int) ≤ 255) = false := decide_eq_false (by omega)
      obtain rfl : b = false := by rw [← hb]; simp; omega
      clear hb
      go_enter Tryd.func134, Tryd.ntmps134
      go_wp2_with fail
      refine HU.out.mono ?_
      rintro e w1 ⟨rfl, h1⟩
      obtain rfl : w = w1 := h1
      go_wp2_with fail
      go_ret
      exact ⟨rfl, rfl⟩
    exact HLB.out _ rfl
theorem small_any (r : Nat) (w : World) : Calls Tryd.prog 108 #[.int .i32 (r : Int)] w fun e w' => e = .returned (.bool (smallR r)) ∧ w = w' := by
  have HL := Lib.hid (letter_any r w)
  have HU := Lib.hid (upper_any r w)
  rw [smallR_eq]
  by_cases h0 : 48 ≤ r ∧ r ≤ 57
  · have hv : ((decide (48 ≤ r) && decide (r ≤ 57)) || (letterR r && !upperR r)) = true := by rw [decide_eq_true h0.1, decide_eq_true h0.2]; rfl
    obtain ⟨h1, h2⟩ := h0
    rw [hv]
    clear hv
    go_enter Tryd.func108, Tryd.ntmps108
    go_wp2_with fail
    go_ret
    exact ⟨rfl, rfl⟩
  have hv : ((decide (48 ≤ r) && decide (r ≤ 57)) || (letterR r && !upperR r)) = (letterR r && !upperR r) := by
    have : (decide (48 ≤ r) && decide (r ≤ 57)) = false := by simp; omega
    rw [this, Bool.false_or]
  rw [hv]
  clear hv
  generalize letterR r = a at *
  generalize upperR r = b at *
  by_cases h1 : r < 48
  · cases a with
    | false =>
      go_enter Tryd.func108, Tryd.ntmps108
      go_wp2_with fail
      refine HL.out.mono ?_
      rintro e w1 ⟨rfl, h1⟩
      obtain rfl : w = w1 := h1
      go_wp2_with fail
      go_ret
      exact ⟨rfl, rfl⟩
    | true =>
      go_enter Tryd.func108, Tryd.ntmps108
      go_wp2_with fail
      refine HL.out.mono ?_
      rintro e w1 ⟨rfl, h1⟩
      obtain rfl : w = w1 := h1
      go_wp2_with fail
      refine HU.out.mono ?_
      rintro e w2 ⟨rfl, h2⟩
      obtain rfl : w = w2 := h2
      go_wp2_with fail
      go_ret
      exact ⟨rfl, rfl⟩
  · have t57 : decide ((r : Int) ≤ 57) = false := decide_eq_false (by omega)
    cases a with
    | false =>
      go_enter Tryd.func108, Tryd.ntmps108
      go_wp2_with fail
      refine HL.out.mono ?_
      rintro e w1 ⟨rfl, h1⟩
      obtain rfl : w = w1 := h1
      go_wp2_with fail
      go_ret
      exact ⟨rfl, rfl⟩
    | true =>
      go_enter Tryd.func108, Tryd.ntmps108
      go_wp2_with fail
      refine HL.out.mono ?_
      rintro e w1 ⟨rfl, h1⟩
      obtain rfl : w = w1 := h1
      go_wp2_with fail
      refine HU.out.mono ?_
      rintro e w2 ⟨rfl, h2⟩
      obtain rfl : w = w2 := h2
      go_wp2_with fail
      go_ret
      exact ⟨rfl, rfl⟩
end Go.Proofs.YtfemhhjmfckicaaDoor

/- Names: the reference's runes: Right, Bytes. No condition. -/
namespace Go.Proofs.YtfemhhjmfckicaaDoor
open Go.RowKit
set_option linter.unusedVariables false
/-- A row of bytes that was just laid. -/
theorem row_bytes (w : World) (l : List UInt8) (cs : Array Value) (hc : cs.toList = l.map u8c) (hl : l.length ≤ 4) : RetBs w l (.returned (.slice (some ⟨w.heap.size, 0, none⟩) l.length l.length)) (w.alloc (.cells cs 5)) := by
  refine ⟨_, rfl, Blk.own (cs := l.map u8c) ?_ (Nat.le_refl _) (Gr.alloc _ _) (by simp) (by simp only [maxLen]; omega)⟩
  have := Blk.new w 5 cs
  rw [hc] at this
  exact this
theorem u8_at (n : Nat) (z : Int) (h : n < 256) (hz : z = n) : Value.int .u8 z = u8c (UInt8.ofNat n) := by
  rw [u8c_ofNat, hz]; exact congrArg _ (by omega)
theorem wrap_i32n {x : Int} (h : -2147483648 ≤ x) (h' : x < 2147483648) : IntKind.i32.wrap x = x := by
  rw [IntKind.wrap_i32]; omega
end Go.Proofs.YtfemhhjmfckicaaDoor

/- Names: the reference's First: the rune with which a text begins. No condition. -/
namespace Go.Proofs.YtfemhhjmfckicaaDoor
open Go.RowKit
set_option linter.unusedVariables false
theorem size_of' (l : List UInt8) : (⟨l.toArray⟩ : ByteArray).size = l.length := by simp [ByteArray.size]
theorem at_of (l : List UInt8) (s : ByteArray) (hs : s = ⟨l.toArray⟩) (k : Nat) (h : k < s.size) : ((s[k]'h).toNat : Int) = bAt l k := by
  subst hs
  unfold bAt
  have h2 : k < l.length := by rw [size_of'] at h; exact h
  show (((l.toArray)[k]'(by simpa using h2)).toNat : Int) = _
  rw [List.getD_eq_getElem?_getD, List.getElem?_eq_getElem h2]
  simp
def bndR : Nat → Nat
  | 0 => 191
  | 1 => 191
  | i + 2 => bndR (i + 1) * 64 + 63
theorem valR_le (l : List UInt8) (r0 : Nat) (h : r0 ≤ 191) : ∀ k, okR l k = true → valR l r0 k ≤ bndR k
  | 0, _ => h
  | 1, _ => h
  | i + 2, ho => by
    have ho : (okR l (i + 1) && contB (l.getD (i + 1) 0)) = true := ho
    rw [Bool.and_eq_true] at ho
    have ih := valR_le l r0 h (i + 1) ho.1
    have hc := ho.2
    unfold contB at hc
    rw [Bool.and_eq_true, decide_eq_true_eq, decide_eq_true_eq] at hc
    show valR l r0 (i + 1) * 64 + ((l.getD (i + 1) 0).toNat - 128) ≤ bndR (i + 1) * 64 + 63
    omega
theorem okR_down (l : List UInt8) (k : Nat) : ∀ m, k ≤ m → okR l m = true → okR l k = true
  | 0, h, ho => by obtain rfl : k = 0 := by omega
                   exact ho
  | 1, h, ho => by match k, h with | 0, _ => rfl | 1, _ => rfl
  | i + 2, h, ho => by
    rcases Nat.lt_or_ge k (i + 2) with hk | hk
    · have ho : (okR l (i + 1) && contB (l.getD (i + 1) 0)) = true := ho
      rw [Bool.and_eq_true] at ho
      exact okR_down l k (i + 1) (by omega) ho.1
    · obtain rfl : k = i + 2 := by omega
      exact ho
theorem leadR_le (c : Nat) (hc : c < 256) : 1 ≤ (leadR c).1 ∧ (leadR c).1 ≤ 4 ∧ (leadR c).2 ≤ 191 := by
  unfold leadR
  by_cases h1 : 240 ≤ c
  · rw [if_pos h1]; exact ⟨by simp, by simp, by show c - 240 ≤ 191; omega⟩
  rw [if_neg h1]
  by_cases h2 : 224 ≤ c
  · rw [if_pos h2]; exact ⟨by simp, by simp, by show c - 224 ≤ 191; omega⟩
  rw [if_neg h2]
  by_cases h3 : 192 ≤ c
  · rw [if_pos h3]; exact ⟨by simp, by simp, by show c - 192 ≤ 191; omega⟩
  rw [if_neg h3]; exact ⟨by simp, by simp, by show c ≤ 191; omega⟩
theorem firstR_is (l : List UInt8) (hl : 0 < l.length) : firstR l =
    (if l.length < (leadR (l.getD 0 0).toNat).1 then (0, 0) else if okR l (leadR (l.getD 0 0).toNat).1 = false then (0, 0) else if rightR (valR l (leadR (l.getD 0 0).toNat).2 (leadR (l.getD 0 0).toNat).1) = false ∨ bytesR (valR l (leadR (l.getD 0 0).toNat).2 (leadR (l.getD 0 0).toNat).1) ≠ l.take (leadR (l.getD 0 0).toNat).1 then (0, 0) else (valR l (leadR (l.getD 0 0).toNat).2 (leadR (l.getD 0 0).toNat).1, (leadR (l.getD 0 0).toNat).1)) := by
  match l, hl with
  | b :: t, _ => rfl
theorem valR_succ (l : List UInt8) (r0 k : Nat) (h : 1 ≤ k) : valR l r0 (k + 1) = valR l r0 k * 64 + ((l.getD k 0).toNat - 128) := by
  obtain ⟨k, rfl⟩ : ∃ j, k = j + 1 := ⟨k - 1, by omega⟩
  rfl
theorem okR_succ (l : List UInt8) (k : Nat) (h : 1 ≤ k) : okR l (k + 1) = (okR l k && (decide (128 ≤ (l.getD k 0).toNat) && decide ((l.getD k 0).toNat ≤ 191))) := by
  obtain ⟨k, rfl⟩ : ∃ j, k = j + 1 := ⟨k - 1, by omega⟩
  rfl
theorem bndR_le : ∀ k, k ≤ 3 → bndR k ≤ 786431
  | 0, _ => by decide
  | 1, _ => by decide
  | 2, _ => by decide
  | 3, _ => by decide
end Go.Proofs.YtfemhhjmfckicaaDoor
