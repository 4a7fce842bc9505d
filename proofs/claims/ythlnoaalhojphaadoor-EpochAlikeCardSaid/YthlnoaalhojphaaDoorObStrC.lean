/- strings.Builder at this dump: what it holds; small numbers printed. No condition. -/
import Derived.Test.YthlnoaalhojphaaDoorObStrB
import Derived.Test.YthlnoaalhojphaaDoorObShelfS
import Derived.Outline
namespace Go.Proofs.YthlnoaalhojphaaDoor
open Go.RowKit
set_option linter.unusedVariables false
theorem SB.lib {w0 w : World} {b : Nat} {l : List UInt8} (h : SB w0 w b l) : Lib.IsBuilder 108 5 w0.heap.size b (Lib.byteCells l) w := by
  obtain ⟨p, v, hp, hb, ho, hl⟩ := h
  have e : (Lib.byteCells l).length = l.length := Lib.byteCells_length l
  have hat : Lib.BuilderAt 108 5 w0.heap.size b p (Lib.byteCells l) w := ⟨hl, v, hb, by rw [e]; exact ho.1, ho.not_blk hb (by decide)⟩
  rcases hp with rfl | rfl
  · exact .inl hat
  · exact .inr hat
theorem sbString_any (w0 : World) (b : Nat) (l : List UInt8) (w : World) (h : SB w0 w b l) :
    Calls Tryd.prog 55 #[.pointer (some ⟨b, 0, none⟩)] w fun e w' => e = .returned (.string ⟨l.toArray⟩) ∧ Below w0.heap.size w0 w' := by
  refine (Tryd.Builder_String_any w0.heap.size b l w h.lib h.below.size).mono ?_
  rintro e w' ⟨rfl, hb⟩
  exact ⟨rfl, h.below.trans hb⟩
theorem numPrint_any (n : Nat) (w : World) (hn : n < 100) :
    Calls Tryd.prog 54 #[.int .i64 (n : Int)] w fun e w' => e = .returned (.string ⟨(Lib.decDigits n).toArray⟩) ∧ w = w' := by
  have HP := Lib.hid (Tryd.strconv_Itoa_small n hn w)
  go_enter Tryd.func54, Tryd.ntmps54
  go_wp2_with fail
  refine HP.out.mono ?_
  rintro e w1 ⟨rfl, h1⟩
  obtain rfl : w = w1 := h1.symm
  go_wp2_with fail
  go_ret
  exact ⟨rfl, rfl⟩
end Go.Proofs.YthlnoaalhojphaaDoor
