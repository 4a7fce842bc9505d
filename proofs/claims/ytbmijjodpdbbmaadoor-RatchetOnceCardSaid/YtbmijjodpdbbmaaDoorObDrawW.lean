import Derived.Test.YtbmijjodpdbbmaaDoorObKdf
import Derived.Test.YtbmijjodpdbbmaaDoorObDigL
import Derived.Test.YtbmijjodpdbbmaaDoorObShelfI
namespace Go.Proofs.YtbmijjodpdbbmaaDoor
open Go.RowKit Go.Lib
set_option linter.unusedVariables false

/-! ### numbers below 100 as digits: no table -/
theorem printS_any (i : Nat) (hi : i < 100) (w : World) :
    Calls Tryd.prog 66 #[.int .i64 i] w fun e w' => e = .returned (.string ⟨(Lib.decDigits i).toArray⟩) ∧ w' = w := by
  have t1 : decide ((i : Int) < 0) = false := decide_eq_false (by omega)
  go_enter Tryd.func66, Tryd.ntmps66
  go_wp2_with (go_at_call 90; refine (Tryd.strconv_Itoa_small i hi _).mono ?_; rintro e w' ⟨rfl, rfl⟩)
  go_ret
  exact ⟨rfl, rfl⟩
theorem dec_len2 (i : Nat) (hi : i < 100) : (Lib.decDigits i).length ≤ 2 := by
  by_cases h : i < 10
  · rw [dec_small i h]; simp
  · rw [dec_big i h, dec_small (i / 10) (by omega), dec_small (i % 10) (by omega)]; simp
def drawS (i : Nat) : List UInt8 := [100, 114, 97, 119, 32] ++ Lib.decDigits i
def drawL (seed : List UInt8) (i : Nat) : List UInt8 := deriveL seed (drawS i)
theorem drawL_len (seed : List UInt8) (i : Nat) : (drawL seed i).length = 32 := deriveL_len _ _
theorem drawS_str (i : Nat) : (({ data := #[100, 114, 97, 119, 32] } : ByteArray) ++ { data := (Lib.decDigits i).toArray }) = ⟨(drawS i).toArray⟩ := by
  apply ByteArray.ext
  simp [drawS, ByteArray.data_append]
theorem at_small (A : Option Addr) (n c : Nat) (seed : List UInt8) (i : Nat) (w : World) (h : Bs w A n c seed) (hn : n ≤ 50000) (hi : i < 100) (hK : ShaK w) :
    Calls Tryd.prog 41 #[.slice A n c, .int .i64 i] w (RetRd w (drawL seed i)) := by
  have HH := Lib.hid h; have HK := Lib.hid hK; clear h hK
  have HS := Lib.hid (drawS_str i)
  have hdl := dec_len2 i hi
  have hl : (drawS i).length ≤ 7 := by unfold drawS; rw [List.length_append]; have := dec_len2 i hi; simp; omega
  go_enter Tryd.func41, Tryd.ntmps41
  go_wp2_with (first
    | (go_at_call 66; refine (printS_any i hi _).mono ?_; rintro e w' ⟨rfl, rfl⟩)
    | (go_at_call 65; rw [HS.out]; refine (derive_any A n c seed (drawS i) _ HH.out hn (by omega) HK.out).mono ?_; rintro e w2 ⟨A2, c2, rfl, s2, b2⟩; have S2 := Lib.hid s2; have B2 := Lib.hid b2; clear s2 b2))
  go_ret
  exact ⟨A2, c2, rfl, S2.out, B2.out⟩
end Go.Proofs.YtbmijjodpdbbmaaDoor
