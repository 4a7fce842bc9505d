import Derived.Test.YtadenlhnfkccaaaDoorObDigW
import Derived.Test.YtadenlhnfkccaaaDoorObPow
import Derived.Test.YtadenlhnfkccaaaDoorObShelfI
import Derived.Test.YtadenlhnfkccaaaDoorObRows
import Derived.Laws.Concat
namespace Go.Proofs.YtadenlhnfkccaaaDoor
open Go.RowKit
set_option linter.unusedVariables false

theorem below_grow (w : World) (os : Array Obj) : Below w.heap.size w (Go.Sort.grow w os) := ⟨rfl, rfl, rfl, by simp, fun k hk => Go.Sort.heap_grow_old w os hk⟩

theorem print_any (n : Int) (w : World) (h0 : -9223372036854775808 ≤ n) (h1 : n ≤ 9223372036854775807) (ht : Pow10 w) :
    Calls Tryd.prog 68 #[.int .i64 n] w fun e w' => e = .returned (.string ⟨(printL n).toArray⟩) ∧ Below w.heap.size w w' := by
  by_cases h : n < 0
  · have t1 : decide (n < 0) = true := decide_eq_true h
    have HP : Hid (printL n = []) := if_pos h
    go_enter Tryd.func68, Tryd.ntmps68
    go_wp2
    go_ret
    exact ⟨by rw [HP.out]; rfl, Below.refl _ _⟩
  · have t1 : decide (n < 0) = false := decide_eq_false h
    have HP : Hid (Lib.itoa n = printL n) := by unfold Lib.itoa printL; rw [if_neg h, if_neg h]; exact rfl
    have HT := Lib.hid ht; clear ht
    go_enter Tryd.func68, Tryd.ntmps68
    go_wp2_with (go_at_call 92; refine (Tryd.strconv_Itoa n h0 h1 _ HT.out).mono ?_; rintro e w' ⟨rfl, k, os, rfl⟩)
    go_ret
    exact ⟨by rw [HP.out]; rfl, (belowN (Below.refl _ _) k).trans (below_grow (w.drewN k) os)⟩

theorem dec_len (u : Nat) : (Lib.decDigits u).length ≤ u + 1 := by
  induction u using Nat.strongRecOn with
  | _ u ih =>
    by_cases h : u < 10
    · rw [dec_small u h]; simp
    · rw [dec_big u h, dec_small (u % 10) (by omega), List.length_append, List.length_singleton]
      have := ih (u / 10) (by omega)
      omega
theorem print_len (n : Int) (h : 0 ≤ n) : ((printL n).length : Int) ≤ n + 1 := by
  unfold printL
  rw [if_neg (by omega)]
  have := dec_len n.toNat
  omega
theorem conv_back1 {P : Program} (x : UInt8) (k : Int) (hk : (x.toNat : Int) = k) (t : TypeId) (hs : P.underlying 9 = some .string) (hd : P.underlying t = some (.slice 5)) (he : P.underlying 5 = some (.int .u8)) (w : World) :
    (convert t 9 (.slice (some ⟨w.heap.size, 0, none⟩) 1 1)).run P (w.alloc (.cells #[.int .u8 k] 5)) = .ok (.string ⟨#[x]⟩) (w.alloc (.cells #[.int .u8 k] 5)) := by
  refine run_convert_bytes_back (P := P) (w.alloc (.cells #[.int .u8 k] 5)) t 9 5 ⟨w.heap.size, 0, none⟩ 1 [x] hd he hs ?_
  intro j hj
  obtain rfl : j = 0 := by simp at hj; exact hj
  have := (Blk.new w 5 #[.int .u8 k]).cell 0
  subst hk
  exact this

theorem refPrint_any : ∀ (u : Nat) (n : Int) (w : World) (hu : n ≤ u) (h1 : n ≤ 9223372036854775807), 
    Calls Tryd.prog 87 #[.int .i64 n] w fun e w' => e = .returned (.string ⟨(printL n).toArray⟩) ∧ Below w.heap.size w w' := by
  intro u
  induction u using Nat.strongRecOn with
  | _ u ih =>
    intro n w hu h1
    by_cases h : n < 0
    · have t1 : decide (n < 0) = true := decide_eq_true h
      have HP : Hid (printL n = []) := if_pos h
      clear ih
      go_enter Tryd.func87, Tryd.ntmps87
      go_wp2
      go_ret
      exact ⟨by rw [HP.out]; rfl, Below.refl _ _⟩
    have t1 : decide (n < 0) = false := decide_eq_false h
    by_cases h2 : n < 10
    · have t2 : decide (n < 10) = true := decide_eq_true h2
      clear ih
      have hd : n = 0 ∨ n = 1 ∨ n = 2 ∨ n = 3 ∨ n = 4 ∨ n = 5 ∨ n = 6 ∨ n = 7 ∨ n = 8 ∨ n = 9 := by omega
      have HP : Hid (printL n = [UInt8.ofNat (48 + n.toNat)]) := by unfold printL; rw [if_neg h, dec_small _ (by omega)]; exact rfl
      have hcv := fun (x : UInt8) (k : Int) hk => conv_back1 (P := Tryd.prog) x k hk 22 Tryd.underlying9 Tryd.underlying22 Tryd.underlying5 w
      go_enter Tryd.func87, Tryd.ntmps87
      clear h h2 t1 t2 hu h1
      rcases hd with rfl | rfl | rfl | rfl | rfl | rfl | rfl | rfl | rfl | rfl
      · replace hcv := hcv 48 48 rfl
        go_wp2
        go_ret
        exact ⟨by rw [HP.out]; rfl, (Below.refl _ _).alloc (Nat.le_refl _) _⟩
      · replace hcv := hcv 49 49 rfl
        go_wp2
        go_ret
        exact ⟨by rw [HP.out]; rfl, (Below.refl _ _).alloc (Nat.le_refl _) _⟩
      · replace hcv := hcv 50 50 rfl
        go_wp2
        go_ret
        exact ⟨by rw [HP.out]; rfl, (Below.refl _ _).alloc (Nat.le_refl _) _⟩
      · replace hcv := hcv 51 51 rfl
        go_wp2
        go_ret
        exact ⟨by rw [HP.out]; rfl, (Below.refl _ _).alloc (Nat.le_refl _) _⟩
      · replace hcv := hcv 52 52 rfl
        go_wp2
        go_ret
        exact ⟨by rw [HP.out]; rfl, (Below.refl _ _).alloc (Nat.le_refl _) _⟩
      · replace hcv := hcv 53 53 rfl
        go_wp2
        go_ret
        exact ⟨by rw [HP.out]; rfl, (Below.refl _ _).alloc (Nat.le_refl _) _⟩
      · replace hcv := hcv 54 54 rfl
        go_wp2
        go_ret
        exact ⟨by rw [HP.out]; rfl, (Below.refl _ _).alloc (Nat.le_refl _) _⟩
      · replace hcv := hcv 55 55 rfl
        go_wp2
        go_ret
        exact ⟨by rw [HP.out]; rfl, (Below.refl _ _).alloc (Nat.le_refl _) _⟩
      · replace hcv := hcv 56 56 rfl
        go_wp2
        go_ret
        exact ⟨by rw [HP.out]; rfl, (Below.refl _ _).alloc (Nat.le_refl _) _⟩
      · replace hcv := hcv 57 57 rfl
        go_wp2
        go_ret
        exact ⟨by rw [HP.out]; rfl, (Below.refl _ _).alloc (Nat.le_refl _) _⟩
    have t2 : decide (n < 10) = false := decide_eq_false h2
    have HI := Lib.hid ih; clear ih
    have HP : Hid (printL n = printL (n / 10) ++ printL (n % 10)) := by
      unfold printL
      rw [if_neg h, if_neg (by omega), if_neg (by omega), dec_big _ (by omega)]
      rw [show (n / 10).toNat = n.toNat / 10 by omega, show (n % 10).toNat = n.toNat % 10 by omega]
      exact rfl
    go_enter Tryd.func87, Tryd.ntmps87
    go_wp2_with fail
    refine (HI.out (u / 10) (by omega) (n / 10) _ (by omega) (by omega)).mono ?_
    rintro e w1 ⟨rfl, b1⟩
    go_wp2_with fail
    refine (HI.out (u - 1) (by omega) (n % 10) _ (by omega) (by omega)).mono ?_
    rintro e w2 ⟨rfl, b2⟩
    have l1 := print_len (n / 10) (by omega)
    have l2 := print_len (n % 10) (by omega)
    have hlen : ¬ 9223372036854775807 < (printL (n / 10)).length + (printL (n % 10)).length := by omega
    clear l1 l2
    go_wp2
    go_ret
    exact ⟨by rw [HP.out, ← ByteArray.mk_append_mk]; rfl, b1.trans (b2.mono b1.size)⟩

end Go.Proofs.YtadenlhnfkccaaaDoor
