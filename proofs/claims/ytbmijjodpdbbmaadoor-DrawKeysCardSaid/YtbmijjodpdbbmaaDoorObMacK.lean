import Derived.Test.YtbmijjodpdbbmaaDoorObMacW
import Derived.Test.YtbmijjodpdbbmaaDoorObRowsW
import Derived.Test.YtbmijjodpdbbmaaDoorObSlW
import Derived.Test.YtbmijjodpdbbmaaDoorObPushG
namespace Go.Proofs.YtbmijjodpdbbmaaDoor
open Go.RowKit
set_option linter.unusedVariables false

/-! ### the mac -/
def keyL (k : List UInt8) : List UInt8 := padL (if 64 < k.length then sumL k else k) 64
theorem keyL_len (k : List UInt8) : (keyL k).length = 64 := padL_length _ _
def keyX (k : List UInt8) (x : UInt8) : List UInt8 := xorL (keyL k) (List.replicate 64 x)
theorem keyX_len (k : List UInt8) (x : UInt8) : (keyX k x).length = 64 := by
  unfold keyX; rw [xorL_length, keyL_len, List.length_replicate]; rfl
def macL (k t : List UInt8) : List UInt8 := sumL (keyX k 92 ++ sumL (keyX k 54 ++ t))
theorem macL_len (k t : List UInt8) : (macL k t).length = 32 := sumL_len _

theorem key_any (A : Option Addr) (n c : Nat) (l : List UInt8) (w : World) (h : Bs w A n c l) (hn : n ≤ 50000) (hK : ShaK w) :
    Calls Tryd.prog 149 #[.slice A n c] w (RetBs w (keyL l)) := by
  have hl : l.length = n := by have := Sl.len h; simpa using this
  have HH := Lib.hid h; clear h
  have HK := Lib.hid hK; clear hK
  by_cases h64 : 64 < n
  · have e1 : keyL l = padL (sumL l) 64 := by unfold keyL; rw [if_pos (by omega)]
    rw [e1]
    obtain ⟨M, hM⟩ : ∃ M, M = sumL l := ⟨_, rfl⟩
    rw [← hM]
    have HM := Lib.hid hM; clear hM e1
    go_enter Tryd.func149, Tryd.ntmps149
    go_wp2_with (first
      | (go_at_call 153; refine (sum_any A n c l _ HH.out (by omega) HK.out).mono ?_; rintro e w1 ⟨v1, rfl, own1⟩; rw [← HM.out] at own1; obtain ⟨A1, k1, rfl, sl1⟩ := own1.slice; have O1 := Lib.hid own1; have S1 := Lib.hid sl1; clear own1 sl1)
      | (go_at_call 91; refine (pad_yes A1 _ k1 M 64 _ S1.out (by omega) (by omega)).mono ?_; rintro e w2 ⟨v2, rfl, own2⟩; have O2 := Lib.hid own2; clear own2))
    go_ret
    exact ⟨_, rfl, O2.out.base O1.out.below⟩
  · have e1 : keyL l = padL l 64 := by unfold keyL; rw [if_neg (by omega)]
    rw [e1]
    go_enter Tryd.func149, Tryd.ntmps149
    go_wp2_with (go_at_call 91; refine (pad_yes A n c l 64 _ HH.out (by omega) (by omega)).mono ?_; rintro e w2 ⟨v2, rfl, own2⟩; have O2 := Lib.hid own2; clear own2)
    go_ret
    exact ⟨_, rfl, O2.out⟩

/-- tag$1: the padded key lies in a box. -/
theorem tagf_any (p : Nat) (x : UInt8) (xi : Int) (hx : xi = (x.toNat : Int)) (A : Option Addr) (c : Nat) (k : List UInt8) (w : World) (hp : w.cell? ⟨p, 0, none⟩ = some (.slice A 64 c)) (hk : Bs w A 64 c k) :
    Calls Tryd.prog 150 #[.int .u8 xi, .pointer (some ⟨p, 0, none⟩)] w (RetBs w (xorL k (List.replicate 64 x))) := by
  have hlt := World.block_lt_of_cell? w _ hp
  have HK := Lib.hid hk; clear hk
  obtain ⟨L, hL⟩ : ∃ L, L = List.replicate 64 x := ⟨_, rfl⟩
  have hLl : L.length = 64 := by rw [hL]; simp
  have HL := Lib.hid hL; clear hL
  have HLL := Lib.hid hLl; clear hLl
  rw [← HL.out]
  have HX := Lib.hid hx; clear hx
  have HREP : Hid (Calls Tryd.prog 152 #[.slice (some ⟨w.heap.size, 0, none⟩) 1 1, .int .i64 64] (w.alloc (.cells #[.int .u8 xi] 5)).drew (RetRd (w.alloc (.cells #[.int .u8 xi] 5)).drew L)) := by
    rw [HL.out]
    refine repeat_any _ 1 x _ ?_
    refine ⟨by simp, Nat.le_refl _, by simp [maxLen], fun _ => ⟨_, _, rfl, ?_⟩⟩
    intro j u hu
    have h0 : j = 0 := by have := (List.getElem?_eq_some_iff.1 hu).1; simpa using this
    subst h0
    have hb : Blk (w.alloc (.cells #[.int .u8 xi] 5)).drew w.heap.size 5 [.int .u8 xi] := Blk.new w _ _
    rw [hb.cell, HX.out]
    exact hu
  have HP : Hid (∀ W : World, Below w.heap.size w W → W.cell? ⟨p, 0, none⟩ = some (.slice A 64 c)) := fun W hW => (hW.cell hlt).trans hp
  go_enter Tryd.func150, Tryd.ntmps150
  go_wp2_with fail
  go_region_law (first
    | (go_simp; go_at_call 152; refine HREP.out.mono ?_; rintro e w1 ⟨A1, k1, rfl, s1, b1⟩; rw [HLL.out] at s1; have B1 : Hid (Below w.heap.size w w1) := (((Below.refl w.heap.size w).alloc (Nat.le_refl _) _).drew).trans (b1.mono (by simp [World.drew])); have S1 := Lib.hid s1; clear s1 b1; rw [HLL.out]; have d1 := HP.out w1 B1.out)
    | (go_simp; go_at_call 151; refine (xor_any A A1 64 64 c k1 k L _ (HK.out.mono B1.out) S1.out (by omega)).mono ?_; rintro e w2 ⟨v2, rfl, own2⟩; have O2 : Hid (Own w w2 _ 1 v2 _ _) := own2.base B1.out; clear own2))
  all_goals
    go_wp2
    go_ret
    exact ⟨_, rfl, O2.out⟩
end Go.Proofs.YtbmijjodpdbbmaaDoor
