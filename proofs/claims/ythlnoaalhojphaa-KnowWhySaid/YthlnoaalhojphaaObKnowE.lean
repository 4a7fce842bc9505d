/- Who knows terms: built. No condition. -/
import Derived.Test.YthlnoaalhojphaaObKnowD
import Derived.Outline
namespace Go.Proofs.Ythlnoaalhojphaa
open Go.RowKit
set_option linter.unusedVariables false
set_option maxHeartbeats 400000 in
theorem indexBuilt (C : Value) (A : Option Addr) (n c : Nat) (l : List Int) (q : Int → Bool) (w : World) (h : Is w A n c l) (hq : ∀ x ∈ l, ∀ w', Gr w w' → Calls Try.prog 58 #[.int .i64 x, C] w' fun e w'' => e = .returned (.bool (q x)) ∧ Gr w' w'') :
    Calls Try.prog 59 #[.slice A n c, .func (.func 58) #[] #[C]] w fun e w' => ∃ r, e = .returned (.int .i64 r) ∧ decide (0 ≤ r) = l.any q ∧ Gr w w' := by
  have hmax := h.max
  have hcap := h.cap
  have hll := h.len
  have HL := Lib.hid h.len
  have HH := Lib.hid h; have HQ := Lib.hid hq; clear h hq hll
  go_enter Try.func59, Try.ntmps59
  go_wp2
  go_loopw [8] (fun i wr => ∃ k : Nat, k ≤ n ∧ i = .int .i64 k ∧ Gr w wr ∧ (l.take k).any q = false) (fun i _ => n - (Go.RowKit.intOf i).toNat)
  case atStart => exact ⟨0, Nat.zero_le _, rfl, Gr.refl _, rfl⟩
  case round =>
    obtain ⟨k, hk, rfl, hbel, hall⟩ := hrel
    have HA := Lib.hid hall; have HB := Lib.hid hbel; clear hall
    by_cases hlt : k < n
    · obtain ⟨b, o, rfl, hcc⟩ := Is.addr (l := l) (HH.out.mono hbel) (by omega)
      have c1 := hcc k hlt
      have hkl : k < l.length := by rw [HL.out]; exact hlt
      have HC := Lib.hid (HQ.out (iAt l k) (iAt_mem hkl) wr hbel)
      have HS := Lib.hid (any_take_snoc q l k hkl)
      have HT : Hid (q (iAt l k) = true → l.any q = true) := fun hh => any_of_at q l k hkl hh
      clear hcc hkl hbel
      generalize iAt l k = x at *
      cases he : q x
      · have HT2 : Hid ((l.take (k + 1)).any q = false) := by show _ = _; rw [HS.out, HA.out, he]; rfl
        rw [he] at HC
        clear he
        go_wp2_with (go_at_call 58; refine HC.out.mono ?_; rintro e w1 ⟨rfl, b1⟩)
        go_roundw
        case rel => exact ⟨k + 1, by omega, by go_num, HB.out.trans b1, HT2.out⟩
        case measure => simp [Go.RowKit.intOf]; omega
      · have HF : Hid (l.any q = true) := HT.out he
        rw [he] at HC
        clear he
        go_wp2_with (go_at_call 58; refine HC.out.mono ?_; rintro e w1 ⟨rfl, b1⟩)
        go_ret
        exact ⟨k, rfl, by rw [HF.out, decide_eq_true_iff]; omega, HB.out.trans b1⟩
    · obtain rfl : n = k := by omega
      have HF : Hid (l.any q = false) := by have := HA.out; rwa [List.take_of_length_le (by rw [HL.out]; omega)] at this
      clear hbel
      go_wp2
      go_ret
      exact ⟨-1, rfl, by rw [HF.out]; rfl, HB.out⟩
theorem containsBuilt (C : Value) (A : Option Addr) (n c : Nat) (l : List Int) (q : Int → Bool) (w : World) (h : Is w A n c l) (hq : ∀ x ∈ l, ∀ w', Gr w w' → Calls Try.prog 58 #[.int .i64 x, C] w' fun e w'' => e = .returned (.bool (q x)) ∧ Gr w' w'') :
    Calls Try.prog 53 #[.slice A n c, .func (.func 58) #[] #[C]] w fun e w' => e = .returned (.bool (l.any q)) ∧ Gr w w' := by
  have HI := Lib.hid (indexBuilt C A n c l q w h hq)
  clear h hq
  go_enter Try.func53, Try.ntmps53
  go_wp2_with fail
  refine HI.out.mono ?_
  rintro e w1 ⟨r, rfl, hr, g1⟩
  have HR := Lib.hid hr; have G1 := Lib.hid g1; clear hr g1
  go_wp2_with fail
  go_ret
  exact ⟨ret_bool HR.out, G1.out⟩
theorem tBools : ElemT Try.prog 34 4 (.bool false) 1 1 := ⟨Try.underlying34, by kernel_rfl, rfl, by decide, by decide⟩
theorem boolc_at {d : List Bool} {i : Nat} (h : i < d.length) : (d.map boolc)[i]? = some (.bool (dAt d i)) := by
  rw [List.getElem?_map, List.getElem?_eq_getElem h]
  unfold dAt
  rw [List.getD_eq_getElem?_getD, List.getElem?_eq_getElem h]; rfl
theorem missing_any (gp go n c : Nat) (out : List Bool) (k : Nat) (w : World) (hp : w.cell? ⟨gp, 0, none⟩ = some (.slice (some ⟨go, 0, none⟩) n c)) (ho : w.cell? ⟨go, k, none⟩ = some (.bool (dAt out k))) (hk : k < n) (hn : n ≤ 1000000) :
    Calls Try.prog 58 #[.int .i64 (k : Int), .pointer (some ⟨gp, 0, none⟩)] w fun e w' => e = .returned (.bool (!dAt out k)) ∧ Gr w w' := by
  go_enter Try.func58, Try.ntmps58
  go_wp2_with fail
  go_ret
  exact ⟨rfl, Gr.refl _⟩
end Go.Proofs.Ythlnoaalhojphaa
