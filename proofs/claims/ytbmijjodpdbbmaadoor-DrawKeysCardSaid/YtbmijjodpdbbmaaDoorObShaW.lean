import Derived.Test.YtbmijjodpdbbmaaDoorObShaL
import Derived.Test.YtbmijjodpdbbmaaDoorObNumW
import Derived.Test.YtbmijjodpdbbmaaDoorObSlW
import Derived.Test.YtbmijjodpdbbmaaDoorProg
import Derived.WalkLawsBesides
import Derived.Deep.QuietTactic
import Derived.BigQuiet
namespace Go.Proofs.YtbmijjodpdbbmaaDoor
open Go.RowKit
set_option linter.unusedVariables false

/-! ### turned words -/
theorem rotl2_any (x : UInt32) (w : World) : Calls Tryd.prog 181 #[.int .u32 (un x), .int .i64 (-2)] w fun e w' => e = .returned (.int .u32 (un (rotR x 2))) ∧ w = w' := by
  have hx := un_lt x
  have hx0 := un_nn x
  have h1 : bits .and .u64 (IntKind.u64.wrap (-2)) 31 = 30 := by decide
  have h2 := rot_v x 2 1073741824 4 (by decide) (by decide) (by decide)
  have H2 := Lib.hid h2; clear h2
  go_enter Tryd.func181, Tryd.ntmps181
  go_wp2
  go_ret
  exact ⟨ret_int H2.out, rfl⟩
theorem right2_any (x : UInt32) (w : World) : Calls Tryd.prog 176 #[.int .u32 (un x), .int .i64 2] w fun e w' => e = .returned (.int .u32 (un (rotR x 2))) ∧ w = w' := by
  have hx := un_lt x
  have hx0 := un_nn x
  go_enter Tryd.func176, Tryd.ntmps176
  go_wp2_with (go_at_call 181; refine (rotl2_any x _).mono ?_; rintro e w' ⟨rfl, rfl⟩)
  go_ret
  exact ⟨rfl, rfl⟩
theorem refRight2_any (x : UInt32) (w : World) : Calls Tryd.prog 143 #[.int .u32 (un x), .int .i64 2] w fun e w' => e = .returned (.int .u32 (un (rotR x 2))) ∧ ∃ k, w' = w.drewN k := by
  have hx := un_lt x
  have hx0 := un_nn x
  have h2 := rot_v' x 2 1073741824 4 (by decide) (by decide) (by decide)
  have H2 := Lib.hid h2; clear h2
  go_enter Tryd.func143, Tryd.ntmps143
  go_wp2
  go_quiet (fail)
  go_wp2
  go_ret
  exact ⟨ret_int H2.out, _, rfl⟩
theorem rotl6_any (x : UInt32) (w : World) : Calls Tryd.prog 181 #[.int .u32 (un x), .int .i64 (-6)] w fun e w' => e = .returned (.int .u32 (un (rotR x 6))) ∧ w = w' := by
  have hx := un_lt x
  have hx0 := un_nn x
  have h1 : bits .and .u64 (IntKind.u64.wrap (-6)) 31 = 26 := by decide
  have h2 := rot_v x 6 67108864 64 (by decide) (by decide) (by decide)
  have H2 := Lib.hid h2; clear h2
  go_enter Tryd.func181, Tryd.ntmps181
  go_wp2
  go_ret
  exact ⟨ret_int H2.out, rfl⟩
theorem right6_any (x : UInt32) (w : World) : Calls Tryd.prog 176 #[.int .u32 (un x), .int .i64 6] w fun e w' => e = .returned (.int .u32 (un (rotR x 6))) ∧ w = w' := by
  have hx := un_lt x
  have hx0 := un_nn x
  go_enter Tryd.func176, Tryd.ntmps176
  go_wp2_with (go_at_call 181; refine (rotl6_any x _).mono ?_; rintro e w' ⟨rfl, rfl⟩)
  go_ret
  exact ⟨rfl, rfl⟩
theorem refRight6_any (x : UInt32) (w : World) : Calls Tryd.prog 143 #[.int .u32 (un x), .int .i64 6] w fun e w' => e = .returned (.int .u32 (un (rotR x 6))) ∧ ∃ k, w' = w.drewN k := by
  have hx := un_lt x
  have hx0 := un_nn x
  have h2 := rot_v' x 6 67108864 64 (by decide) (by decide) (by decide)
  have H2 := Lib.hid h2; clear h2
  go_enter Tryd.func143, Tryd.ntmps143
  go_wp2
  go_quiet (fail)
  go_wp2
  go_ret
  exact ⟨ret_int H2.out, _, rfl⟩
theorem rotl7_any (x : UInt32) (w : World) : Calls Tryd.prog 181 #[.int .u32 (un x), .int .i64 (-7)] w fun e w' => e = .returned (.int .u32 (un (rotR x 7))) ∧ w = w' := by
  have hx := un_lt x
  have hx0 := un_nn x
  have h1 : bits .and .u64 (IntKind.u64.wrap (-7)) 31 = 25 := by decide
  have h2 := rot_v x 7 33554432 128 (by decide) (by decide) (by decide)
  have H2 := Lib.hid h2; clear h2
  go_enter Tryd.func181, Tryd.ntmps181
  go_wp2
  go_ret
  exact ⟨ret_int H2.out, rfl⟩
theorem right7_any (x : UInt32) (w : World) : Calls Tryd.prog 176 #[.int .u32 (un x), .int .i64 7] w fun e w' => e = .returned (.int .u32 (un (rotR x 7))) ∧ w = w' := by
  have hx := un_lt x
  have hx0 := un_nn x
  go_enter Tryd.func176, Tryd.ntmps176
  go_wp2_with (go_at_call 181; refine (rotl7_any x _).mono ?_; rintro e w' ⟨rfl, rfl⟩)
  go_ret
  exact ⟨rfl, rfl⟩
theorem refRight7_any (x : UInt32) (w : World) : Calls Tryd.prog 143 #[.int .u32 (un x), .int .i64 7] w fun e w' => e = .returned (.int .u32 (un (rotR x 7))) ∧ ∃ k, w' = w.drewN k := by
  have hx := un_lt x
  have hx0 := un_nn x
  have h2 := rot_v' x 7 33554432 128 (by decide) (by decide) (by decide)
  have H2 := Lib.hid h2; clear h2
  go_enter Tryd.func143, Tryd.ntmps143
  go_wp2
  go_quiet (fail)
  go_wp2
  go_ret
  exact ⟨ret_int H2.out, _, rfl⟩
theorem rotl11_any (x : UInt32) (w : World) : Calls Tryd.prog 181 #[.int .u32 (un x), .int .i64 (-11)] w fun e w' => e = .returned (.int .u32 (un (rotR x 11))) ∧ w = w' := by
  have hx := un_lt x
  have hx0 := un_nn x
  have h1 : bits .and .u64 (IntKind.u64.wrap (-11)) 31 = 21 := by decide
  have h2 := rot_v x 11 2097152 2048 (by decide) (by decide) (by decide)
  have H2 := Lib.hid h2; clear h2
  go_enter Tryd.func181, Tryd.ntmps181
  go_wp2
  go_ret
  exact ⟨ret_int H2.out, rfl⟩
theorem right11_any (x : UInt32) (w : World) : Calls Tryd.prog 176 #[.int .u32 (un x), .int .i64 11] w fun e w' => e = .returned (.int .u32 (un (rotR x 11))) ∧ w = w' := by
  have hx := un_lt x
  have hx0 := un_nn x
  go_enter Tryd.func176, Tryd.ntmps176
  go_wp2_with (go_at_call 181; refine (rotl11_any x _).mono ?_; rintro e w' ⟨rfl, rfl⟩)
  go_ret
  exact ⟨rfl, rfl⟩
theorem refRight11_any (x : UInt32) (w : World) : Calls Tryd.prog 143 #[.int .u32 (un x), .int .i64 11] w fun e w' => e = .returned (.int .u32 (un (rotR x 11))) ∧ ∃ k, w' = w.drewN k := by
  have hx := un_lt x
  have hx0 := un_nn x
  have h2 := rot_v' x 11 2097152 2048 (by decide) (by decide) (by decide)
  have H2 := Lib.hid h2; clear h2
  go_enter Tryd.func143, Tryd.ntmps143
  go_wp2
  go_quiet (fail)
  go_wp2
  go_ret
  exact ⟨ret_int H2.out, _, rfl⟩
theorem rotl13_any (x : UInt32) (w : World) : Calls Tryd.prog 181 #[.int .u32 (un x), .int .i64 (-13)] w fun e w' => e = .returned (.int .u32 (un (rotR x 13))) ∧ w = w' := by
  have hx := un_lt x
  have hx0 := un_nn x
  have h1 : bits .and .u64 (IntKind.u64.wrap (-13)) 31 = 19 := by decide
  have h2 := rot_v x 13 524288 8192 (by decide) (by decide) (by decide)
  have H2 := Lib.hid h2; clear h2
  go_enter Tryd.func181, Tryd.ntmps181
  go_wp2
  go_ret
  exact ⟨ret_int H2.out, rfl⟩
theorem right13_any (x : UInt32) (w : World) : Calls Tryd.prog 176 #[.int .u32 (un x), .int .i64 13] w fun e w' => e = .returned (.int .u32 (un (rotR x 13))) ∧ w = w' := by
  have hx := un_lt x
  have hx0 := un_nn x
  go_enter Tryd.func176, Tryd.ntmps176
  go_wp2_with (go_at_call 181; refine (rotl13_any x _).mono ?_; rintro e w' ⟨rfl, rfl⟩)
  go_ret
  exact ⟨rfl, rfl⟩
theorem refRight13_any (x : UInt32) (w : World) : Calls Tryd.prog 143 #[.int .u32 (un x), .int .i64 13] w fun e w' => e = .returned (.int .u32 (un (rotR x 13))) ∧ ∃ k, w' = w.drewN k := by
  have hx := un_lt x
  have hx0 := un_nn x
  have h2 := rot_v' x 13 524288 8192 (by decide) (by decide) (by decide)
  have H2 := Lib.hid h2; clear h2
  go_enter Tryd.func143, Tryd.ntmps143
  go_wp2
  go_quiet (fail)
  go_wp2
  go_ret
  exact ⟨ret_int H2.out, _, rfl⟩
theorem rotl17_any (x : UInt32) (w : World) : Calls Tryd.prog 181 #[.int .u32 (un x), .int .i64 (-17)] w fun e w' => e = .returned (.int .u32 (un (rotR x 17))) ∧ w = w' := by
  have hx := un_lt x
  have hx0 := un_nn x
  have h1 : bits .and .u64 (IntKind.u64.wrap (-17)) 31 = 15 := by decide
  have h2 := rot_v x 17 32768 131072 (by decide) (by decide) (by decide)
  have H2 := Lib.hid h2; clear h2
  go_enter Tryd.func181, Tryd.ntmps181
  go_wp2
  go_ret
  exact ⟨ret_int H2.out, rfl⟩
theorem right17_any (x : UInt32) (w : World) : Calls Tryd.prog 176 #[.int .u32 (un x), .int .i64 17] w fun e w' => e = .returned (.int .u32 (un (rotR x 17))) ∧ w = w' := by
  have hx := un_lt x
  have hx0 := un_nn x
  go_enter Tryd.func176, Tryd.ntmps176
  go_wp2_with (go_at_call 181; refine (rotl17_any x _).mono ?_; rintro e w' ⟨rfl, rfl⟩)
  go_ret
  exact ⟨rfl, rfl⟩
theorem refRight17_any (x : UInt32) (w : World) : Calls Tryd.prog 143 #[.int .u32 (un x), .int .i64 17] w fun e w' => e = .returned (.int .u32 (un (rotR x 17))) ∧ ∃ k, w' = w.drewN k := by
  have hx := un_lt x
  have hx0 := un_nn x
  have h2 := rot_v' x 17 32768 131072 (by decide) (by decide) (by decide)
  have H2 := Lib.hid h2; clear h2
  go_enter Tryd.func143, Tryd.ntmps143
  go_wp2
  go_quiet (fail)
  go_wp2
  go_ret
  exact ⟨ret_int H2.out, _, rfl⟩
theorem rotl18_any (x : UInt32) (w : World) : Calls Tryd.prog 181 #[.int .u32 (un x), .int .i64 (-18)] w fun e w' => e = .returned (.int .u32 (un (rotR x 18))) ∧ w = w' := by
  have hx := un_lt x
  have hx0 := un_nn x
  have h1 : bits .and .u64 (IntKind.u64.wrap (-18)) 31 = 14 := by decide
  have h2 := rot_v x 18 16384 262144 (by decide) (by decide) (by decide)
  have H2 := Lib.hid h2; clear h2
  go_enter Tryd.func181, Tryd.ntmps181
  go_wp2
  go_ret
  exact ⟨ret_int H2.out, rfl⟩
theorem right18_any (x : UInt32) (w : World) : Calls Tryd.prog 176 #[.int .u32 (un x), .int .i64 18] w fun e w' => e = .returned (.int .u32 (un (rotR x 18))) ∧ w = w' := by
  have hx := un_lt x
  have hx0 := un_nn x
  go_enter Tryd.func176, Tryd.ntmps176
  go_wp2_with (go_at_call 181; refine (rotl18_any x _).mono ?_; rintro e w' ⟨rfl, rfl⟩)
  go_ret
  exact ⟨rfl, rfl⟩
theorem refRight18_any (x : UInt32) (w : World) : Calls Tryd.prog 143 #[.int .u32 (un x), .int .i64 18] w fun e w' => e = .returned (.int .u32 (un (rotR x 18))) ∧ ∃ k, w' = w.drewN k := by
  have hx := un_lt x
  have hx0 := un_nn x
  have h2 := rot_v' x 18 16384 262144 (by decide) (by decide) (by decide)
  have H2 := Lib.hid h2; clear h2
  go_enter Tryd.func143, Tryd.ntmps143
  go_wp2
  go_quiet (fail)
  go_wp2
  go_ret
  exact ⟨ret_int H2.out, _, rfl⟩
theorem rotl19_any (x : UInt32) (w : World) : Calls Tryd.prog 181 #[.int .u32 (un x), .int .i64 (-19)] w fun e w' => e = .returned (.int .u32 (un (rotR x 19))) ∧ w = w' := by
  have hx := un_lt x
  have hx0 := un_nn x
  have h1 : bits .and .u64 (IntKind.u64.wrap (-19)) 31 = 13 := by decide
  have h2 := rot_v x 19 8192 524288 (by decide) (by decide) (by decide)
  have H2 := Lib.hid h2; clear h2
  go_enter Tryd.func181, Tryd.ntmps181
  go_wp2
  go_ret
  exact ⟨ret_int H2.out, rfl⟩
theorem right19_any (x : UInt32) (w : World) : Calls Tryd.prog 176 #[.int .u32 (un x), .int .i64 19] w fun e w' => e = .returned (.int .u32 (un (rotR x 19))) ∧ w = w' := by
  have hx := un_lt x
  have hx0 := un_nn x
  go_enter Tryd.func176, Tryd.ntmps176
  go_wp2_with (go_at_call 181; refine (rotl19_any x _).mono ?_; rintro e w' ⟨rfl, rfl⟩)
  go_ret
  exact ⟨rfl, rfl⟩
theorem refRight19_any (x : UInt32) (w : World) : Calls Tryd.prog 143 #[.int .u32 (un x), .int .i64 19] w fun e w' => e = .returned (.int .u32 (un (rotR x 19))) ∧ ∃ k, w' = w.drewN k := by
  have hx := un_lt x
  have hx0 := un_nn x
  have h2 := rot_v' x 19 8192 524288 (by decide) (by decide) (by decide)
  have H2 := Lib.hid h2; clear h2
  go_enter Tryd.func143, Tryd.ntmps143
  go_wp2
  go_quiet (fail)
  go_wp2
  go_ret
  exact ⟨ret_int H2.out, _, rfl⟩
theorem rotl22_any (x : UInt32) (w : World) : Calls Tryd.prog 181 #[.int .u32 (un x), .int .i64 (-22)] w fun e w' => e = .returned (.int .u32 (un (rotR x 22))) ∧ w = w' := by
  have hx := un_lt x
  have hx0 := un_nn x
  have h1 : bits .and .u64 (IntKind.u64.wrap (-22)) 31 = 10 := by decide
  have h2 := rot_v x 22 1024 4194304 (by decide) (by decide) (by decide)
  have H2 := Lib.hid h2; clear h2
  go_enter Tryd.func181, Tryd.ntmps181
  go_wp2
  go_ret
  exact ⟨ret_int H2.out, rfl⟩
theorem right22_any (x : UInt32) (w : World) : Calls Tryd.prog 176 #[.int .u32 (un x), .int .i64 22] w fun e w' => e = .returned (.int .u32 (un (rotR x 22))) ∧ w = w' := by
  have hx := un_lt x
  have hx0 := un_nn x
  go_enter Tryd.func176, Tryd.ntmps176
  go_wp2_with (go_at_call 181; refine (rotl22_any x _).mono ?_; rintro e w' ⟨rfl, rfl⟩)
  go_ret
  exact ⟨rfl, rfl⟩
theorem refRight22_any (x : UInt32) (w : World) : Calls Tryd.prog 143 #[.int .u32 (un x), .int .i64 22] w fun e w' => e = .returned (.int .u32 (un (rotR x 22))) ∧ ∃ k, w' = w.drewN k := by
  have hx := un_lt x
  have hx0 := un_nn x
  have h2 := rot_v' x 22 1024 4194304 (by decide) (by decide) (by decide)
  have H2 := Lib.hid h2; clear h2
  go_enter Tryd.func143, Tryd.ntmps143
  go_wp2
  go_quiet (fail)
  go_wp2
  go_ret
  exact ⟨ret_int H2.out, _, rfl⟩
theorem rotl25_any (x : UInt32) (w : World) : Calls Tryd.prog 181 #[.int .u32 (un x), .int .i64 (-25)] w fun e w' => e = .returned (.int .u32 (un (rotR x 25))) ∧ w = w' := by
  have hx := un_lt x
  have hx0 := un_nn x
  have h1 : bits .and .u64 (IntKind.u64.wrap (-25)) 31 = 7 := by decide
  have h2 := rot_v x 25 128 33554432 (by decide) (by decide) (by decide)
  have H2 := Lib.hid h2; clear h2
  go_enter Tryd.func181, Tryd.ntmps181
  go_wp2
  go_ret
  exact ⟨ret_int H2.out, rfl⟩
theorem right25_any (x : UInt32) (w : World) : Calls Tryd.prog 176 #[.int .u32 (un x), .int .i64 25] w fun e w' => e = .returned (.int .u32 (un (rotR x 25))) ∧ w = w' := by
  have hx := un_lt x
  have hx0 := un_nn x
  go_enter Tryd.func176, Tryd.ntmps176
  go_wp2_with (go_at_call 181; refine (rotl25_any x _).mono ?_; rintro e w' ⟨rfl, rfl⟩)
  go_ret
  exact ⟨rfl, rfl⟩
theorem refRight25_any (x : UInt32) (w : World) : Calls Tryd.prog 143 #[.int .u32 (un x), .int .i64 25] w fun e w' => e = .returned (.int .u32 (un (rotR x 25))) ∧ ∃ k, w' = w.drewN k := by
  have hx := un_lt x
  have hx0 := un_nn x
  have h2 := rot_v' x 25 128 33554432 (by decide) (by decide) (by decide)
  have H2 := Lib.hid h2; clear h2
  go_enter Tryd.func143, Tryd.ntmps143
  go_wp2
  go_quiet (fail)
  go_wp2
  go_ret
  exact ⟨ret_int H2.out, _, rfl⟩

/-! ### of the words -/
theorem low_any (x : UInt32) (w : World) : Calls Tryd.prog 179 #[.int .u32 (un x)] w fun e w' => e = .returned (.int .u32 (un (sg0 x))) ∧ w = w' := by
  have hx := un_lt x
  have hx0 := un_nn x
  have r1 := w_xor
  have r2 := shr3 x
  go_enter Tryd.func179, Tryd.ntmps179
  go_wp2_with (first
    | (go_at_call 176; (with_reducible refine (right7_any x _).mono ?_); rintro e w' ⟨rfl, rfl⟩)
    | (go_at_call 176; (with_reducible refine (right18_any x _).mono ?_); rintro e w' ⟨rfl, rfl⟩))
  go_ret
  exact ⟨rfl, rfl⟩
theorem high_any (x : UInt32) (w : World) : Calls Tryd.prog 180 #[.int .u32 (un x)] w fun e w' => e = .returned (.int .u32 (un (sg1 x))) ∧ w = w' := by
  have hx := un_lt x
  have hx0 := un_nn x
  have r1 := w_xor
  have r2 := shr10 x
  go_enter Tryd.func180, Tryd.ntmps180
  go_wp2_with (first
    | (go_at_call 176; (with_reducible refine (right17_any x _).mono ?_); rintro e w' ⟨rfl, rfl⟩)
    | (go_at_call 176; (with_reducible refine (right19_any x _).mono ?_); rintro e w' ⟨rfl, rfl⟩))
  go_ret
  exact ⟨rfl, rfl⟩
end Go.Proofs.YtbmijjodpdbbmaaDoor
