import Derived.Test.YtciokbponfilfaaDoorObDigW
import Derived.Test.YtciokbponfilfaaDoorObPow
import Derived.Test.YtciokbponfilfaaDoorObShelfI
import Derived.Test.YtciokbponfilfaaDoorObRows
import Derived.Laws.Concat
namespace Go.Proofs.YtciokbponfilfaaDoor
open Go.RowKit
set_option linter.unusedVariables false

theorem below_grow (w : World) (os : Array Obj) : Below w.heap.size w (Go.Sort.grow w os) := ⟨rfl, rfl, rfl, by simp, fun k hk => Go.Sort.heap_grow_old w os hk⟩

theorem print_any (n : Int) (w : World) (h0 : -9223372036854775808 ≤ n) (h1 : n ≤ 9223372036854775807) (ht : Pow10 w) :
    Calls Tryd.prog 53 #[.int .i64 n] w fun e w' => e = .returned (.string ⟨(printL n).toArray⟩) ∧ Below w.heap.size w w' := by
  by_cases h : n < 0
  · have t1 : decide (n < 0) = true := decide_eq_true h
    have HP : Hid (printL n = []) := if_pos h
    go_enter Tryd.func53, Tryd.ntmps53
    go_wp2
    go_ret
    exact ⟨by rw [HP.out]; rfl, Below.refl _ _⟩
  · have t1 : decide (n < 0) = false := decide_eq_false h
    have HP : Hid (Lib.itoa n = printL n) := by unfold Lib.itoa printL; rw [if_neg h, if_neg h]; exact rfl
    have HT := Lib.hid ht; clear ht
    go_enter Tryd.func53, Tryd.ntmps53
    go_wp2_with (go_at_call 67; refine (Tryd.strconv_Itoa n h0 h1 _ HT.out).mono ?_; rintro e w' ⟨rfl, k, os, rfl⟩)
    go_ret
    exact ⟨by rw [HP.out]; rfl, (belowN (Below.refl _ _) k).trans (below_grow (w.drewN k) os)⟩

theorem dec_len (u : Nat) : (Lib.decDigits u).length ≤ u + 1 := by
  induction u using Nat.strongRecOn with
  | _ u ih =>
    by_cases h : u < 10
    · rw [dec_small u h]; simp
    · rw [dec_big u h, dec_small (u % 10) (by omega), List.length_append, List.length_singleton]
      have := ih (u / 10) (by omega)
      omega
theorem print_len (n : Int) (h : 0 ≤ n) : ((printL n).length : Int) ≤ n + 1 := by
  unfold printL
  rw [if_neg (by omega)]
  have := dec_len n.toNat
  omega
theorem conv_back1 {P : Program} (x : UInt8) (k : Int) (hk : (x.toNat : Int) = k) (t : TypeId) (hs : P.underlying 9 = some .string) (hd : P.underlying t = some (.slice 5)) (he : P.underlying 5 = some (.int .u8)) (w : World) :
    (convert t 9 (.slice (some ⟨w.heap.size, 0, none⟩) 1 1)).run P (w.alloc (.cells #[.int .u8 k] 5)) = .ok (.string ⟨#[x]⟩) (w.alloc (.cells #[.int .u8 k] 5)) := by
  refine run_convert_bytes_back (P := P) (w.alloc (.cells #[.int .u8 k] 5)) t 9 5 ⟨w.heap.size, 0, none⟩ 1 [x] hd he hs ?_
  intro j hj
  obtain rfl : j = 0 := by simp at hj; exact hj
  have := (Blk.new w 5 #[.int .u8 k]).cell 0
  subst hk
  exact this

end Go.Proofs.YtciokbponfilfaaDoor
