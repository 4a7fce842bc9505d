/- What a nil table says. No condition. -/
import Derived.Test.YthlnoaalhojphaaDoorObTermR
import Derived.Outline
namespace Go.Proofs.YthlnoaalhojphaaDoor
open Go.RowKit
set_option linter.unusedVariables false
def RetV (v : Value) (w : World) (e : Ending) (w' : World) : Prop := e = .returned v ∧ Gr w w'
abbrev RetZ := RetV (.int .i64 0)
theorem thereNil_any (A : Option Addr) (m c : Nat) (w : World) : Calls Tryd.prog 49 #[.pointer none, .slice A m c] w (RetV (.bool false) w) := by
  have hg := Gr.alloc w (.cells #[.pointer none] 25)
  go_enter Tryd.func49, Tryd.ntmps49
  go_wp2_with fail
  go_ret
  exact ⟨rfl, hg⟩
theorem foundNil_any (k0 a0 b0 : Int) (s : ByteArray) (xv : Value) (A : Option Addr) (m c : Nat) (w : World) :
    Calls Tryd.prog 51 #[.pointer none, .agg #[.int .i64 k0, .int .i64 a0, .int .i64 b0, .string s], xv, .slice A m c] w (RetZ w) := by
  have hg := Gr.alloc w (.cells #[.int .i64 k0, .int .i64 a0, .int .i64 b0, .string s] 105)
  go_enter Tryd.func51, Tryd.ntmps51
  go_wp2_with fail
  refine (thereNil_any _ _ _ _).mono ?_
  rintro e w1 ⟨rfl, g1⟩
  have G1 := Lib.hid (hg.trans g1); clear g1
  go_wp2_with fail
  go_ret
  exact ⟨rfl, G1.out⟩
theorem atomNil_any (w : World) : Calls Tryd.prog 18 #[.pointer none] w (RetZ w) := by
  go_enter Tryd.func18, Tryd.ntmps18
  go_wp2_with fail
  go_ret
  exact ⟨rfl, Gr.refl _⟩
theorem lenNil_any (w : World) : Calls Tryd.prog 13 #[.pointer none] w (RetZ w) := by
  go_enter Tryd.func13, Tryd.ntmps13
  go_wp2_with fail
  go_ret
  exact ⟨rfl, Gr.refl _⟩
theorem textNil_any (s : ByteArray) (w : World) : Calls Tryd.prog 19 #[.pointer none, .string s] w (RetZ w) := by
  go_enter Tryd.func19, Tryd.ntmps19
  go_wp2_with fail
  refine (foundNil_any _ _ _ _ _ _ _ _ _).mono ?_
  rintro e w1 ⟨rfl, g1⟩
  have G1 := Lib.hid g1; clear g1
  go_wp2_with fail
  go_ret
  exact ⟨rfl, G1.out⟩
theorem kdfNil_any (a : Int) (s : ByteArray) (w : World) : Calls Tryd.prog 20 #[.pointer none, .int .i64 a, .string s] w (RetZ w) := by
  have hg := Gr.alloc w (.cells #[.int .i64 a] 3)
  go_enter Tryd.func20, Tryd.ntmps20
  go_wp2_with fail
  refine (foundNil_any _ _ _ _ _ _ _ _ _).mono ?_
  rintro e w1 ⟨rfl, g1⟩
  have G1 := Lib.hid (hg.trans g1); clear g1
  go_wp2_with fail
  go_ret
  exact ⟨rfl, G1.out⟩
theorem mixNil_any (a b : Int) (w : World) : Calls Tryd.prog 21 #[.pointer none, .int .i64 a, .int .i64 b] w (RetZ w) := by
  have hg := Gr.alloc w (.cells #[.int .i64 a, .int .i64 b] 3)
  go_enter Tryd.func21, Tryd.ntmps21
  go_wp2_with fail
  refine (foundNil_any _ _ _ _ _ _ _ _ _).mono ?_
  rintro e w1 ⟨rfl, g1⟩
  have G1 := Lib.hid (hg.trans g1); clear g1
  go_wp2_with fail
  go_ret
  exact ⟨rfl, G1.out⟩
theorem encNil_any (a b : Int) (w : World) : Calls Tryd.prog 22 #[.pointer none, .int .i64 a, .int .i64 b] w (RetZ w) := by
  have hg := Gr.alloc w (.cells #[.int .i64 a, .int .i64 b] 3)
  go_enter Tryd.func22, Tryd.ntmps22
  go_wp2_with fail
  refine (foundNil_any _ _ _ _ _ _ _ _ _).mono ?_
  rintro e w1 ⟨rfl, g1⟩
  have G1 := Lib.hid (hg.trans g1); clear g1
  go_wp2_with fail
  go_ret
  exact ⟨rfl, G1.out⟩
theorem kindNil_any (a : Int) (w : World) : Calls Tryd.prog 16 #[.pointer none, .int .i64 a] w (RetZ w) := by
  have hg := Gr.alloc w (.cells #[.int .i64 a] 3)
  go_enter Tryd.func16, Tryd.ntmps16
  go_wp2_with fail
  refine (thereNil_any _ _ _ _).mono ?_
  rintro e w1 ⟨rfl, g1⟩
  have G1 := Lib.hid (hg.trans g1); clear g1
  go_wp2_with fail
  go_ret
  exact ⟨rfl, G1.out⟩
theorem sizeNil_any (a : Int) (w : World) : Calls Tryd.prog 23 #[.pointer none, .int .i64 a] w (RetZ w) := by
  have hg := Gr.alloc w (.cells #[.int .i64 a] 3)
  go_enter Tryd.func23, Tryd.ntmps23
  go_wp2_with fail
  refine (thereNil_any _ _ _ _).mono ?_
  rintro e w1 ⟨rfl, g1⟩
  have G1 := Lib.hid (hg.trans g1); clear g1
  go_wp2_with fail
  go_ret
  exact ⟨rfl, G1.out⟩
theorem partsNil_any (a : Int) (w : World) : Calls Tryd.prog 15 #[.pointer none, .int .i64 a] w (RetV (.slice none 0 0) w) := by
  have hg := Gr.alloc w (.cells #[.int .i64 a] 3)
  go_enter Tryd.func15, Tryd.ntmps15
  go_wp2_with fail
  refine (thereNil_any _ _ _ _).mono ?_
  rintro e w1 ⟨rfl, g1⟩
  have G1 := Lib.hid (hg.trans g1); clear g1
  go_wp2_with fail
  go_ret
  exact ⟨rfl, G1.out⟩
theorem labelNil_any (a : Int) (w : World) : Calls Tryd.prog 17 #[.pointer none, .int .i64 a] w (RetV (.string ⟨#[]⟩) w) := by
  go_enter Tryd.func17, Tryd.ntmps17
  go_wp2_with fail
  refine (kindNil_any _ _).mono ?_
  rintro e w1 ⟨rfl, g1⟩
  have G1 := Lib.hid g1; clear g1
  go_wp2_with fail
  go_ret
  exact ⟨rfl, G1.out⟩
theorem printNil_any (a : Int) (w : World) : Calls Tryd.prog 24 #[.pointer none, .int .i64 a] w (RetV (.string ⟨#[]⟩) w) := by
  have hg := Gr.alloc w (.cells #[.pointer none] 25)
  go_enter Tryd.func24, Tryd.ntmps24
  go_wp2_with fail
  refine (sizeNil_any _ _).mono ?_
  rintro e w1 ⟨rfl, g1⟩
  have G1 := Lib.hid (hg.trans g1); clear g1
  go_wp2_with fail
  go_ret
  exact ⟨rfl, G1.out⟩
end Go.Proofs.YthlnoaalhojphaaDoor
