import Derived.Test.YtbmijjodpdbbmaaDoorObDrawD
import Derived.Test.YtbmijjodpdbbmaaDoorObRefM
import Derived.Test.YtbmijjodpdbbmaaDoorObOpen
namespace Go.Proofs.YtbmijjodpdbbmaaDoor
open Go.RowKit
set_option linter.unusedVariables false

theorem refAt_any (A : Option Addr) (n c : Nat) (seed : List UInt8) (i : Nat) (w : World) (h : Bs w A n c seed) (hn : n ≤ 50000) (hi : i ≤ 4000) :
    Calls Tryd.prog 39 #[.slice A n c, .int .i64 i] w (RetRd w (drawL seed i)) := by
  have HH := Lib.hid h; clear h
  have HS := Lib.hid (drawS_str i)
  have HPD := Lib.hid (print_dec i)
  have hdl := dec_len i
  have hl : (drawS i).length ≤ 4006 := by unfold drawS; rw [List.length_append]; have := dec_len i; simp; omega
  go_enter Tryd.func39, Tryd.ntmps39
  go_wp2_with (first
    | (go_at_call 64; refine (refPrint_any i (i : Int) _ (by omega) (by omega)).mono ?_; rintro e w1 ⟨rfl, b1⟩; rw [HPD.out]; have B1 := Lib.hid b1; clear b1)
    | (go_at_call 15; rw [HS.out]; refine (refDerive_any A n c seed (drawS i) _ (HH.out.mono B1.out) hn (by omega)).mono ?_; rintro e w2 ⟨A2, c2, rfl, s2, b2⟩; have S2 := Lib.hid s2; have B2 := Lib.hid (below_both B1.out b2); clear s2 b2))
  go_ret
  exact ⟨A2, c2, rfl, S2.out, B2.out⟩
def bytesL (seed : List UInt8) (D : Nat) (x : Int) : List UInt8 := if 1 ≤ x ∧ x ≤ 4096 then (drawsL seed D (drawsOf x.toNat)).take x.toNat else []
def nextD (D : Nat) (x : Int) : Nat := if 1 ≤ x ∧ x ≤ 4096 then D + drawsOf x.toNat else D
theorem nextD_le (D : Nat) (x : Int) (h : ¬ (200 < x ∧ x ≤ 4096)) : nextD D x ≤ D + 7 := by
  unfold nextD drawsOf; split <;> omega
theorem drawsOf_ge (N : Nat) : N ≤ 32 * drawsOf N := by unfold drawsOf; omega
theorem bytesL_len (seed : List UInt8) (D N : Nat) : ((drawsL seed D (drawsOf N)).take N).length = N := by
  rw [List.length_take, drawsL_len]; have := drawsOf_ge N; omega
def RetB14 (w : World) (seed : List UInt8) (D : Nat) (x : Int) (e : Ending) (w' : World) : Prop :=
  ∃ A' c', e = .returned (.tuple #[.slice A' (bytesL seed D x).length c', .int .i64 (nextD D x : Nat)]) ∧ Bs w' A' (bytesL seed D x).length c' (bytesL seed D x) ∧ Below w.heap.size w w'
set_option maxHeartbeats 1000000 in
theorem refBytes_any (A : Option Addr) (n c : Nat) (seed : List UInt8) (D : Nat) (x : Int) (w : World) (h : Bs w A n c seed) (hn : n ≤ 50000) (hD : D ≤ 3000) :
    Calls Tryd.prog 35 #[.slice A n c, .int .i64 D, .int .i64 x] w (RetB14 w seed D x) := by
  by_cases hx : 1 ≤ x ∧ x ≤ 4096
  · obtain ⟨hx1, hx2⟩ := hx
    obtain ⟨N, rfl⟩ := Int.eq_ofNat_of_zero_le (show 0 ≤ x by omega)
    have e1 : bytesL seed D (N : Int) = (drawsL seed D (drawsOf N)).take N := by unfold bytesL; rw [if_pos ⟨hx1, hx2⟩]; simp
    have e2 : nextD D (N : Int) = D + drawsOf N := by unfold nextD; rw [if_pos ⟨hx1, hx2⟩]; simp
    have e3 := bytesL_len seed D N
    have HH := Lib.hid h; clear h
    have t1 : decide ((N : Int) < 1) = false := decide_eq_false (by omega)
    have t2 : decide (4096 < (N : Int)) = false := decide_eq_false (by omega)
    have E1 := Lib.hid e1; have E2 := Lib.hid e2; have E3 := Lib.hid e3; clear e1 e2 e3
    go_enter Tryd.func35, Tryd.ntmps35
    go_wp2_with fail
    clear t1 t2
    go_loopw [8, 1] (fun v i wr => ∃ (k : Nat) (A' : Option Addr) (c' : Nat), v = .slice A' (32 * k) c' ∧ i = .int .i64 ((D + k : Nat) : Int) ∧ 32 * k < N + 32 ∧ Own w wr 5 1 (.slice A' (32 * k) c') (32 * k) ((drawsL seed D k).map u8c)) (fun v _ _ => 5000 - slN v)
    case atStart => exact ⟨0, none, 0, rfl, rfl, by omega, Own.nil _ _ _⟩
    case round =>
      obtain ⟨k, A1, c1, rfl, rfl, hk, o1⟩ := hrel
      have O1 := Lib.hid o1
      by_cases hlt : 32 * k < N
      · clear o1
        go_wp2_with fail
        refine (refAt_any A n c seed (D + k) _ (HH.out.mono O1.out.below) hn (by omega)).mono ?_
        rintro e w3 ⟨A3, c3, rfl, s3, b3⟩
        rw [drawL_len] at s3 ⊢
        have S3 := Lib.hid s3; have O3 := Lib.hid (O1.out.mono b3); clear s3 b3
        have E8 : Hid ((drawsL seed D k).map u8c ++ (drawL seed (D + k)).map u8c = (drawsL seed D (k + 1)).map u8c) := by show _ = _; rw [← List.map_append]; rfl
        go_wp2_with (at_builtin; refine wpList_cat rfl (.tmp 20) (.tmp 23) 22 rfl tBytes rfl O3.out rfl S3.out (one_bytes _) (by omega) ?_; intro v8 w8 own8; obtain ⟨A8, k8, rfl, sl8⟩ := own8.slice; have O8 := Lib.hid own8; clear own8 sl8)
        first | go_roundw | skip
        case rel => exact ⟨k + 1, A8, k8, rfl, by first | go_num | (congr 1; omega), by omega, by rw [← E8.out]; exact O8.out⟩
        case measure => simp [slN]; omega
      · have hDo : drawsOf N = k := by unfold drawsOf; omega
        have sl1 : Sl wr A1 (32 * k) c1 1 ((drawsL seed D k).map u8c) := by obtain ⟨A', c', e, s⟩ := o1.slice; cases e; exact s
        have q1 := sl1.cap
        have m1 := sl1.max
        have T1 : Hid (Bs wr A1 N c1 ((drawsL seed D k).take N)) := by have := sl1.upto (k := N) (by omega); rw [← List.map_take] at this; exact this
        have HDo := Lib.hid hDo
        clear o1 sl1 hDo
        go_wp2_with fail
        go_ret2
        refine ⟨A1, c1, ?_, ?_, O1.out.below⟩
        · rw [E1.out, E3.out, E2.out, HDo.out]; rfl
        · rw [E1.out, E3.out, HDo.out]; exact T1.out
  · have e1 : bytesL seed D x = [] := by unfold bytesL; rw [if_neg hx]
    have e2 : nextD D x = D := by unfold nextD; rw [if_neg hx]
    have E1 := Lib.hid e1; have E2 := Lib.hid e2; clear e1 e2
    by_cases h1 : x < 1
    · go_enter Tryd.func35, Tryd.ntmps35
      go_wp2_with fail
      go_ret2
      exact ⟨none, 0, by rw [E1.out, E2.out]; rfl, by rw [E1.out]; exact Sl.nil _ _, Below.refl _ _⟩
    · have h2 : 4096 < x := by omega
      go_enter Tryd.func35, Tryd.ntmps35
      go_wp2_with fail
      go_ret2
      exact ⟨none, 0, by rw [E1.out, E2.out]; rfl, by rw [E1.out]; exact Sl.nil _ _, Below.refl _ _⟩
def RetS14 (w : World) (p : Nat) (A : Option Addr) (n c : Nat) (seed : List UInt8) (D : Nat) (x : Int) (e : Ending) (w' : World) : Prop :=
  ∃ A' c', e = .returned (.slice A' (bytesL seed D x).length c') ∧ Bs w' A' (bytesL seed D x).length c' (bytesL seed D x) ∧ Src w' p A n c seed (nextD D x) ∧ Only p w w'
theorem bytesS_any (p : Nat) (A : Option Addr) (n c : Nat) (seed : List UInt8) (D : Nat) (x : Int) (w : World) (h : Src w p A n c seed D) (hn : n ≤ 50000) (hd : D ≤ 3000) (hK : Tabs w) (hp : NoTab p) :
    Calls Tryd.prog 36 #[.pointer (some ⟨p, 0, none⟩), .int .i64 x] w (RetS14 w p A n c seed D x) := by
  by_cases hx : 1 ≤ x ∧ x ≤ 4096
  · obtain ⟨hx1, hx2⟩ := hx
    obtain ⟨N, rfl⟩ := Int.eq_ofNat_of_zero_le (show 0 ≤ x by omega)
    have e1 : bytesL seed D (N : Int) = (drawsL seed D (drawsOf N)).take N := by unfold bytesL; rw [if_pos ⟨hx1, hx2⟩]; simp
    have e2 : nextD D (N : Int) = D + drawsOf N := by unfold nextD; rw [if_pos ⟨hx1, hx2⟩]; simp
    refine (bytes_any p A n c seed D w h hn N (by omega) (by omega) hd hK hp).mono ?_
    rintro e w' r
    obtain ⟨A', c', rfl, s, s2, o⟩ := r.only h
    refine ⟨A', c', ?_, ?_, ?_, o⟩
    · rw [e1, bytesL_len]
    · rw [e1, bytesL_len]; exact s
    · rw [e2]; exact s2
  · have e1 : bytesL seed D x = [] := by unfold bytesL; rw [if_neg hx]
    have e2 : nextD D x = D := by unfold nextD; rw [if_neg hx]
    have E1 := Lib.hid e1; have E2 := Lib.hid e2; clear e1 e2
    have HS := Lib.hid h; clear h hK
    by_cases h1 : x < 1
    · skip
      go_enter Tryd.func36, Tryd.ntmps36
      go_wp2_with fail
      go_step3
      go_wp2_with fail
      rw [Exit.noGoto_ret]
      go_ret
      exact ⟨none, 0, by rw [E1.out]; rfl, by rw [E1.out]; exact Sl.nil _ _, by rw [E2.out]; exact HS.out, _, HS.out.same _⟩
    · have h2 : 4096 < x := by omega
      go_enter Tryd.func36, Tryd.ntmps36
      go_wp2_with fail
      go_step3
      go_wp2_with fail
      rw [Exit.noGoto_ret]
      go_ret
      exact ⟨none, 0, by rw [E1.out]; rfl, by rw [E1.out]; exact Sl.nil _ _, by rw [E2.out]; exact HS.out, _, HS.out.same _⟩
end Go.Proofs.YtbmijjodpdbbmaaDoor
