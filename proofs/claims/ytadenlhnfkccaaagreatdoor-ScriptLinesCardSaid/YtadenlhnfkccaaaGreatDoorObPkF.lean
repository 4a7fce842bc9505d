/- Own texts of this claim, one behind the other. No condition. -/
import Derived.Test.YtadenlhnfkccaaaGreatDoorObPkA
import Derived.Test.YtadenlhnfkccaaaGreatDoorObPkB
import Derived.Test.YtadenlhnfkccaaaGreatDoorObPkC
import Derived.Test.YtadenlhnfkccaaaGreatDoorObPkD
import Derived.Test.YtadenlhnfkccaaaGreatDoorObPkE
import Derived.Laws.Concat
import Derived.Outline
import Derived.Laws.Rows
import Derived.Laws.Tables
import Derived.Laws.ResultCell

/- The seat's shelf text has numbers printed. No condition. -/

namespace Go.Proofs.YtadenlhnfkccaaaGreatDoor
open Go.RowKit
set_option linter.unusedVariables false

theorem below_grow (w : World) (os : Array Obj) : Below w.heap.size w (Go.Sort.grow w os) := ⟨rfl, rfl, rfl, by simp, fun k hk => Go.Sort.heap_grow_old w os hk⟩

theorem print_any (n : Int) (w : World) (h0 : -9223372036854775808 ≤ n) (h1 : n ≤ 9223372036854775807) (ht : Pow10 w) :
    Calls Tryz.prog 73 #[.int .i64 n] w fun e w' => e = .returned (.string ⟨(printL n).toArray⟩) ∧ Below w.heap.size w w' := by
  by_cases h : n < 0
  · have t1 : decide (n < 0) = true := decide_eq_true h
    have HP : Hid (printL n = []) := if_pos h
    go_enter Tryz.func73, Tryz.ntmps73
    go_wp2
    go_ret
    exact ⟨by rw [HP.out]; rfl, Below.refl _ _⟩
  · have t1 : decide (n < 0) = false := decide_eq_false h
    have HP : Hid (Lib.itoa n = printL n) := by unfold Lib.itoa printL; rw [if_neg h, if_neg h]; exact rfl
    have HT := Lib.hid ht; clear ht
    go_enter Tryz.func73, Tryz.ntmps73
    go_wp2_with (go_at_call 94; refine (Tryz.strconv_Itoa n h0 h1 _ HT.out).mono ?_; rintro e w' ⟨rfl, k, os, rfl⟩)
    go_ret
    exact ⟨by rw [HP.out]; rfl, (belowN (Below.refl _ _) k).trans (below_grow (w.drewN k) os)⟩

theorem dec_len (u : Nat) : (Lib.decDigits u).length ≤ u + 1 := by
  induction u using Nat.strongRecOn with
  | _ u ih =>
    by_cases h : u < 10
    · rw [dec_small u h]; simp
    · rw [dec_big u h, dec_small (u % 10) (by omega), List.length_append, List.length_singleton]
      have := ih (u / 10) (by omega)
      omega
theorem print_len (n : Int) (h : 0 ≤ n) : ((printL n).length : Int) ≤ n + 1 := by
  unfold printL
  rw [if_neg (by omega)]
  have := dec_len n.toNat
  omega
theorem conv_back1 {P : Program} (x : UInt8) (k : Int) (hk : (x.toNat : Int) = k) (t : TypeId) (hs : P.underlying 9 = some .string) (hd : P.underlying t = some (.slice 5)) (he : P.underlying 5 = some (.int .u8)) (w : World) :
    (convert t 9 (.slice (some ⟨w.heap.size, 0, none⟩) 1 1)).run P (w.alloc (.cells #[.int .u8 k] 5)) = .ok (.string ⟨#[x]⟩) (w.alloc (.cells #[.int .u8 k] 5)) := by
  refine run_convert_bytes_back (P := P) (w.alloc (.cells #[.int .u8 k] 5)) t 9 5 ⟨w.heap.size, 0, none⟩ 1 [x] hd he hs ?_
  intro j hj
  obtain rfl : j = 0 := by simp at hj; exact hj
  have := (Blk.new w 5 #[.int .u8 k]).cell 0
  subst hk
  exact this

theorem refPrint_any : ∀ (u : Nat) (n : Int) (w : World) (hu : n ≤ u) (h1 : n ≤ 9223372036854775807), 
    Calls Tryz.prog 50 #[.int .i64 n] w fun e w' => e = .returned (.string ⟨(printL n).toArray⟩) ∧ Below w.heap.size w w' := by
  intro u
  induction u using Nat.strongRecOn with
  | _ u ih =>
    intro n w hu h1
    by_cases h : n < 0
    · have t1 : decide (n < 0) = true := decide_eq_true h
      have HP : Hid (printL n = []) := if_pos h
      clear ih
      go_enter Tryz.func50, Tryz.ntmps50
      go_wp2
      go_ret
      exact ⟨by rw [HP.out]; rfl, Below.refl _ _⟩
    have t1 : decide (n < 0) = false := decide_eq_false h
    by_cases h2 : n < 10
    · have t2 : decide (n < 10) = true := decide_eq_true h2
      clear ih
      have hd : n = 0 ∨ n = 1 ∨ n = 2 ∨ n = 3 ∨ n = 4 ∨ n = 5 ∨ n = 6 ∨ n = 7 ∨ n = 8 ∨ n = 9 := by omega
      have HP : Hid (printL n = [UInt8.ofNat (48 + n.toNat)]) := by unfold printL; rw [if_neg h, dec_small _ (by omega)]; exact rfl
      have hcv := fun (x : UInt8) (k : Int) hk => conv_back1 (P := Tryz.prog) x k hk 22 Tryz.underlying9 Tryz.underlying22 Tryz.underlying5 w
      go_enter Tryz.func50, Tryz.ntmps50
      clear h h2 t1 t2 hu h1
      rcases hd with rfl | rfl | rfl | rfl | rfl | rfl | rfl | rfl | rfl | rfl
      · replace hcv := hcv 48 48 rfl
        go_wp2
        go_ret
        exact ⟨by rw [HP.out]; rfl, (Below.refl _ _).alloc (Nat.le_refl _) _⟩
      · replace hcv := hcv 49 49 rfl
        go_wp2
        go_ret
        exact ⟨by rw [HP.out]; rfl, (Below.refl _ _).alloc (Nat.le_refl _) _⟩
      · replace hcv := hcv 50 50 rfl
        go_wp2
        go_ret
        exact ⟨by rw [HP.out]; rfl, (Below.refl _ _).alloc (Nat.le_refl _) _⟩
      · replace hcv := hcv 51 51 rfl
        go_wp2
        go_ret
        exact ⟨by rw [HP.out]; rfl, (Below.refl _ _).alloc (Nat.le_refl _) _⟩
      · replace hcv := hcv 52 52 rfl
        go_wp2
        go_ret
        exact ⟨by rw [HP.out]; rfl, (Below.refl _ _).alloc (Nat.le_refl _) _⟩
      · replace hcv := hcv 53 53 rfl
        go_wp2
        go_ret
        exact ⟨by rw [HP.out]; rfl, (Below.refl _ _).alloc (Nat.le_refl _) _⟩
      · replace hcv := hcv 54 54 rfl
        go_wp2
        go_ret
        exact ⟨by rw [HP.out]; rfl, (Below.refl _ _).alloc (Nat.le_refl _) _⟩
      · replace hcv := hcv 55 55 rfl
        go_wp2
        go_ret
        exact ⟨by rw [HP.out]; rfl, (Below.refl _ _).alloc (Nat.le_refl _) _⟩
      · replace hcv := hcv 56 56 rfl
        go_wp2
        go_ret
        exact ⟨by rw [HP.out]; rfl, (Below.refl _ _).alloc (Nat.le_refl _) _⟩
      · replace hcv := hcv 57 57 rfl
        go_wp2
        go_ret
        exact ⟨by rw [HP.out]; rfl, (Below.refl _ _).alloc (Nat.le_refl _) _⟩
    have t2 : decide (n < 10) = false := decide_eq_false h2
    have HI := Lib.hid ih; clear ih
    have HP : Hid (printL n = printL (n / 10) ++ printL (n % 10)) := by
      unfold printL
      rw [if_neg h, if_neg (by omega), if_neg (by omega), dec_big _ (by omega)]
      rw [show (n / 10).toNat = n.toNat / 10 by omega, show (n % 10).toNat = n.toNat % 10 by omega]
      exact rfl
    go_enter Tryz.func50, Tryz.ntmps50
    go_wp2_with fail
    refine (HI.out (u / 10) (by omega) (n / 10) _ (by omega) (by omega)).mono ?_
    rintro e w1 ⟨rfl, b1⟩
    go_wp2_with fail
    refine (HI.out (u - 1) (by omega) (n % 10) _ (by omega) (by omega)).mono ?_
    rintro e w2 ⟨rfl, b2⟩
    have l1 := print_len (n / 10) (by omega)
    have l2 := print_len (n % 10) (by omega)
    have hlen : ¬ 9223372036854775807 < (printL (n / 10)).length + (printL (n % 10)).length := by omega
    clear l1 l2
    go_wp2
    go_ret
    exact ⟨by rw [HP.out, ← ByteArray.mk_append_mk]; rfl, b1.trans (b2.mono b1.size)⟩

end Go.Proofs.YtadenlhnfkccaaaGreatDoor

/- Bytes as text, as the program says. No condition. -/
namespace Go.Proofs.YtadenlhnfkccaaaGreatDoor
open Go.RowKit
set_option linter.unusedVariables false
set_option linter.unusedSimpArgs false
theorem digit_any (n : Nat) (h : n < 16) (w : World) : Calls Tryz.prog 95 #[.int .u8 (n : Int)] w fun e w' => e = .returned (u8c (hexD n)) ∧ w' = w := by
  have HD := Lib.hid (hexD_toNat h)
  have h1 : IntKind.u8.wrap (48 + (n : Int)) = 48 + n := wrap_u8 (by omega) (by omega)
  have h2 : IntKind.u8.wrap (97 + (n : Int)) = 97 + n := wrap_u8 (by omega) (by omega)
  have h3 : IntKind.u8.wrap (97 + (n : Int) - 10) = 87 + n := by rw [wrap_u8 (by omega) (by omega)]; omega
  by_cases h10 : n < 10
  · have t1 : decide ((n : Int) < 10) = true := decide_eq_true (by omega)
    have HF : Hid (u8c (hexD n) = .int .u8 (48 + (n : Int))) := by show _ = _; unfold u8c; rw [HD.out, if_pos h10]
    go_enter Tryz.func95, Tryz.ntmps95
    go_wp2
    go_ret
    exact ⟨by rw [HF.out]; simp [h1], rfl⟩
  · have t1 : decide ((n : Int) < 10) = false := decide_eq_false (by omega)
    have HF : Hid (u8c (hexD n) = .int .u8 (87 + (n : Int))) := by show _ = _; unfold u8c; rw [HD.out, if_neg h10]
    go_enter Tryz.func95, Tryz.ntmps95
    go_wp2
    go_ret
    exact ⟨by rw [HF.out]; rfl, rfl⟩
theorem value_any (c : UInt8) (w : World) : Calls Tryz.prog 84 #[u8c c] w fun e w' => e = .returned (.tuple #[.int .u8 (if hexV c < 16 then (hexV c : Int) else 0), .bool (decide (hexV c < 16))]) ∧ w' = w := by
  have hc := c.toNat_lt
  have hv := hexV_cases c
  obtain ⟨r, hr⟩ : ∃ r : Int, r = if hexV c < 16 then (hexV c : Int) else 0 := ⟨_, rfl⟩
  obtain ⟨b, hb⟩ : ∃ b, b = decide (hexV c < 16) := ⟨_, rfl⟩
  rw [← hr, ← hb]
  unfold u8c
  generalize hexV c = v at *
  generalize c.toNat = n at *
  by_cases h1 : 48 ≤ n
  · have t1 : decide ((n : Int) ≥ 48) = true := decide_eq_true (by omega)
    by_cases h2 : n ≤ 57
    · have t2 : decide ((n : Int) ≤ 57) = true := decide_eq_true (by omega)
      have h3 : IntKind.u8.wrap ((n : Int) - 48) = n - 48 := wrap_u8 (by omega) (by omega)
      have HR : Hid (r = (n : Int) - 48) := by show _ = _; rw [hr, if_pos (by omega)]; omega
      have HB : Hid (b = true) := by show _ = _; rw [hb]; exact decide_eq_true (by omega)
      clear hr hb hv
      go_enter Tryz.func84, Tryz.ntmps84
      go_wp2
      go_ret2
      exact ⟨by rw [HR.out, HB.out]; rfl, rfl⟩
    · have t2 : decide ((n : Int) ≤ 57) = false := decide_eq_false (by omega)
      by_cases h4 : 97 ≤ n
      · have t3 : decide ((n : Int) ≥ 97) = true := decide_eq_true (by omega)
        by_cases h5 : n ≤ 102
        · have t4 : decide ((n : Int) ≤ 102) = true := decide_eq_true (by omega)
          have h3 : IntKind.u8.wrap ((n : Int) - 97) = n - 97 := wrap_u8 (by omega) (by omega)
          have h6 : IntKind.u8.wrap ((n : Int) - 97 + 10) = n - 87 := by rw [wrap_u8 (by omega) (by omega)]; omega
          have HR : Hid (r = (n : Int) - 87) := by show _ = _; rw [hr, if_pos (by omega)]; omega
          have HB : Hid (b = true) := by show _ = _; rw [hb]; exact decide_eq_true (by omega)
          clear hr hb hv
          go_enter Tryz.func84, Tryz.ntmps84
          go_wp2
          go_ret2
          exact ⟨by rw [HR.out, HB.out]; rfl, rfl⟩
        · have t4 : decide ((n : Int) ≤ 102) = false := decide_eq_false (by omega)
          have HR : Hid (r = 0) := by show _ = _; rw [hr, if_neg (by omega)]
          have HB : Hid (b = false) := by show _ = _; rw [hb]; exact decide_eq_false (by omega)
          clear hr hb hv
          go_enter Tryz.func84, Tryz.ntmps84
          go_wp2
          go_ret2
          exact ⟨by rw [HR.out, HB.out]; rfl, rfl⟩
      · have t3 : decide ((n : Int) ≥ 97) = false := decide_eq_false (by omega)
        have HR : Hid (r = 0) := by show _ = _; rw [hr, if_neg (by omega)]
        have HB : Hid (b = false) := by show _ = _; rw [hb]; exact decide_eq_false (by omega)
        clear hr hb hv
        go_enter Tryz.func84, Tryz.ntmps84
        go_wp2
        go_ret2
        exact ⟨by rw [HR.out, HB.out]; rfl, rfl⟩
  · have t1 : decide ((n : Int) ≥ 48) = false := decide_eq_false (by omega)
    have t3 : decide ((n : Int) ≥ 97) = false := decide_eq_false (by omega)
    have HR : Hid (r = 0) := by show _ = _; rw [hr, if_neg (by omega)]
    have HB : Hid (b = false) := by show _ = _; rw [hb]; exact decide_eq_false (by omega)
    clear hr hb hv
    go_enter Tryz.func84, Tryz.ntmps84
    go_wp2
    go_ret2
    exact ⟨by rw [HR.out, HB.out]; rfl, rfl⟩
def hexDs : ByteArray := ⟨#[48, 49, 50, 51, 52, 53, 54, 55, 56, 57, 97, 98, 99, 100, 101, 102]⟩
theorem hexDs_fin : ∀ k : Fin 16, hexDs[k.1]'k.2 = hexD k.1 := by decide +kernel
theorem hexDs_at (k : Nat) (h : k < 16) : (⟨#[48, 49, 50, 51, 52, 53, 54, 55, 56, 57, 97, 98, 99, 100, 101, 102]⟩ : ByteArray)[k]'h = hexD k := hexDs_fin ⟨k, h⟩
theorem refValue_any (c : UInt8) (w : World) : Calls Tryz.prog 67 #[u8c c] w fun e w' => e = .returned (.int .i64 (if hexV c < 16 then (hexV c : Int) else -1)) ∧ w' = w := by
  obtain ⟨r, hr⟩ : ∃ r : Int, r = if hexV c < 16 then (hexV c : Int) else -1 := ⟨_, rfl⟩
  rw [← hr]
  have HR := Lib.hid hr
  clear hr
  unfold u8c
  go_enter Tryz.func67, Tryz.ntmps67
  go_wp2
  go_loopw [3] (fun i wr => ∃ k : Nat, k ≤ 16 ∧ i = .int .i64 k ∧ wr = w ∧ ∀ j, j < k → hexD j ≠ c) (fun i _ => 16 - (intOf i).toNat)
  case atStart => exact ⟨0, by omega, rfl, rfl, fun j h => by omega⟩
  case round =>
    obtain ⟨k, hk, rfl, rfl, hj⟩ := hrel
    have HJ := Lib.hid hj; clear hj
    by_cases hlt : k < 16
    · have t1 : decide ((k : Int) < 16) = true := decide_eq_true (by omega)
      have HAT := Lib.hid (hexDs_at k hlt)
      by_cases he : hexD k = c
      · have tb : ((((⟨#[48, 49, 50, 51, 52, 53, 54, 55, 56, 57, 97, 98, 99, 100, 101, 102]⟩ : ByteArray)[k]'hlt).toNat : Int) == (c.toNat : Int)) = true := by rw [HAT.out, he]; simp
        have HF : Hid (r = (k : Int)) := by
          show _ = _
          have : hexV c = k := by rw [← he]; exact hexV_hexD hlt
          rw [HR.out, this, if_pos hlt]
        clear he
        go_wp2
        go_ret
        exact ⟨by rw [HF.out]; rfl, rfl⟩
      · have tb : ((((⟨#[48, 49, 50, 51, 52, 53, 54, 55, 56, 57, 97, 98, 99, 100, 101, 102]⟩ : ByteArray)[k]'hlt).toNat : Int) == (c.toNat : Int)) = false := by
          rw [HAT.out]
          apply beq_eq_false_iff_ne.2
          intro e
          exact he (UInt8.toNat_inj.1 (by omega))
        have HN : Hid (∀ j, j < k + 1 → hexD j ≠ c) := fun j hj => by
          rcases Nat.lt_succ_iff_lt_or_eq.1 hj with h | rfl
          · exact HJ.out j h
          · exact he
        clear he
        go_wp2
        refine ⟨⟨k + 1, by omega, by first | trivial | go_num, by first | trivial | rfl, HN.out⟩, ?_⟩
        show 16 - ((k : Int) + 1).toNat < 16 - (k : Int).toNat
        omega
    · obtain rfl : k = 16 := by omega
      have HF : Hid (r = -1) := by
        show _ = _
        rw [HR.out, if_neg]
        intro h
        exact HJ.out _ h (hexD_hexV h)
      go_wp2
      go_ret
      exact ⟨by rw [HF.out]; rfl, rfl⟩
end Go.Proofs.YtadenlhnfkccaaaGreatDoor

/- Bytes as text: Print, the program's and the reference's. No condition. -/
namespace Go.Proofs.YtadenlhnfkccaaaGreatDoor
open Go.RowKit
set_option linter.unusedVariables false
set_option linter.unusedSimpArgs false
/-- 'make([]T, 0, c)', T of one cell: for every world. -/
theorem run_mk0 {P : Program} {t e : TypeId} {z : Value} {bytes : Nat} (ht : ElemT P t e z 1 bytes) (hz1 : z.cells = #[z]) (n : Nat) (h : n * bytes ≤ 281474976710656) (w : World) :
    (Instr.makeSlice t (.int .i64 0) (.int .i64 (n : Int))).run P w = .ok (.slice (some ⟨w.heap.size, 0, none⟩) 0 n) (w.alloc (.cells (reps n z).toArray e)) := by
  obtain ⟨i, hi, hz, hsz, hby⟩ := info_parts ht.info
  have hb := ht.bpos
  have hn : n ≤ n * bytes := Nat.le_mul_of_pos_right _ hb
  have hr := run_make (P := P) w t e i z ht.und hi hz .i64 .i64 0 n (by omega) (by omega) (by rw [hby, Int.mul_comm]; omega) (by omega)
  simp only [Int.toNat_natCast, hsz, Nat.mul_one] at hr
  have hc : madeCells z.cells n = (reps n z).toArray := by
    unfold madeCells reps
    rw [hz1]
    apply Array.ext
    · simp
    · intro j hj1 hj2
      simp only [Array.getElem_map, Array.getElem_range, List.getElem_toArray, List.getElem_replicate]
      have : (#[z] : Array Value).size = 1 := rfl
      rw [this, Nat.mod_one]; rfl
  rw [hc] at hr
  exact hr
theorem own_mk0 (w : World) (n : Nat) (hm : n ≤ maxLen) (e : TypeId) (z : Value) : Own w (w.alloc (.cells (reps n z).toArray e)) e 1 (.slice (some ⟨w.heap.size, 0, none⟩) 0 n) 0 [] :=
  ⟨⟨rfl, .inr ⟨w.heap.size, n, (reps n z).toArray, rfl, Nat.le_refl _, heap_alloc_new w _, Nat.zero_le _, hm, by simp [reps], by simp⟩⟩, Gr.alloc w _⟩
theorem sl_new (w : World) (e : TypeId) (cs : Array Value) (n : Nat) (h : cs.size = n) (hm : n ≤ 1000000) : Sl (w.alloc (.cells cs e)) (some ⟨w.heap.size, 0, none⟩) n n 1 cs.toList := by
  have ow := (Blk.new w e cs).own (w0 := w) (size := 1) (n := n) (Nat.le_refl _) (Gr.alloc w _) (by simp [h]) (by simp only [maxLen]; omega)
  obtain ⟨A, c, e, sl⟩ := ow.slice
  injection e with e1 e2 e3
  subst e1 e3
  exact sl
set_option maxRecDepth 100000 in
set_option maxHeartbeats 1000000 in
theorem hexPrint_any (A : Option Addr) (n c : Nat) (l : List UInt8) (w : World) (h : Bs w A n c l) (hn : n ≤ 100000) : Calls Tryz.prog 74 #[.slice A n c] w fun e w' => e = .returned (.string ⟨(hexP l).toArray⟩) ∧ Gr w w' := by
  have hmax := h.max
  have hcap := h.cap
  have HL := Lib.hid h.len
  have HH := Lib.hid h; clear h
  have hmk : ∀ W : World, (Instr.makeSlice 22 (.int .i64 0) (.int .i64 (2 * (n : Int)))).run Tryz.prog W = .ok (.slice (some ⟨W.heap.size, 0, none⟩) 0 (2 * n)) (W.alloc (.cells (reps (2 * n) (.int .u8 0)).toArray 5)) := fun W => run_mk0 tBytes rfl (2 * n) (by omega) W
  have HO := Lib.hid (own_mk0 w (2 * n) (by simp only [maxLen]; omega) 5 (.int .u8 0))
  go_enter Tryz.func74, Tryz.ntmps74
  go_wp2
  go_loopw [3, 12] (fun v i wr => ∃ k : Nat, k ≤ n ∧ i = .int .i64 k ∧ Own w wr 5 1 v (2 * k) ((hexP (l.take k)).map u8c)) (fun _ i _ => n - (intOf i).toNat)
  case atStart => exact ⟨0, by omega, rfl, HO.out⟩
  case round =>
    obtain ⟨k, hk, rfl, ow⟩ := hrel
    have OW := Lib.hid ow; clear ow
    by_cases hlt : k < n
    · obtain ⟨b, o, rfl, hc⟩ := Bs.addr (l := l) (HH.out.mono OW.out.2) (by omega)
      have c1 := hc k hlt
      have hkl : k < l.length := by rw [HL.out]; exact hlt
      have hg : l.getD k 0 = l[k] := by simp [List.getD_eq_getElem?_getD, List.getElem?_eq_getElem hkl]
      have HS : Hid (hexP (l.take (k + 1)) = hexP (l.take k) ++ [hexD (l[k].toNat / 16), hexD (l[k].toNat % 16)]) := by
        show _ = _
        rw [List.take_succ_eq_append_getElem hkl, hexP_snoc]
      unfold bAt at c1
      rw [hg] at c1
      clear hc hg
      have hx := l[k].toNat_lt
      generalize l[k].toNat = x at *
      have HD1 : Hid (∀ wr, Calls Tryz.prog 95 #[.int .u8 ((x : Int) / 16)] wr fun e w' => e = .returned (u8c (hexD (x / 16))) ∧ w' = wr) := fun wr => digit_any (x / 16) (by omega) wr
      have HD2 : Hid (∀ wr, Calls Tryz.prog 95 #[.int .u8 ((x : Int) % 16)] wr fun e w' => e = .returned (u8c (hexD (x % 16))) ∧ w' = wr) := fun wr => digit_any (x % 16) (by omega) wr
      obtain ⟨y1, hy1⟩ : ∃ y : Int, u8c (hexD (x / 16)) = .int .u8 y := ⟨_, rfl⟩
      obtain ⟨y2, hy2⟩ : ∃ y : Int, u8c (hexD (x % 16)) = .int .u8 y := ⟨_, rfl⟩
      have HY : Hid ([hexD (x / 16), hexD (x % 16)].map u8c = [.int .u8 y1, .int .u8 y2]) := by show [_, _] = _; rw [hy1, hy2]
      rw [hy1] at HD1
      rw [hy2] at HD2
      clear hy1 hy2
      go_wp2_with fail
      refine (HD1.out _).mono ?_
      rintro e w1 ⟨rfl, rfl⟩
      go_wp2_with fail
      refine (HD2.out _).mono ?_
      rintro e w2 ⟨rfl, rfl⟩
      go_wp2_with (at_builtin; refine wpList_cat rfl (.tmp 16) (.tmp 23) 22 rfl tBytes rfl (OW.out.alloc _) rfl (sl_new _ _ _ 2 rfl (by omega)) (by intro u hu; simp at hu; rcases hu with rfl | rfl <;> rfl) (by omega) ?_; intro v1 wn o1)
      have HT : Hid (Own w wn 5 1 v1 (2 * (k + 1)) ((hexP (l.take (k + 1))).map u8c)) := by
        show Own _ _ _ _ _ _ _
        rw [HS.out, List.map_append, HY.out, Nat.mul_add]
        exact o1
      clear o1
      go_roundw
      case rel => exact ⟨k + 1, by omega, by first | trivial | go_num, HT.out⟩
      case measure =>
        show n - ((k : Int) + 1).toNat < n - (k : Int).toNat
        omega
    · obtain rfl : k = n := by omega
      have htk : l.take k = l := List.take_of_length_le (by rw [HL.out]; omega)
      have OF : Hid (Own w wr 5 1 u3 (2 * k) ((hexP l).map u8c)) := by show Own _ _ _ _ _ _ _; rw [← htk]; exact OW.out
      obtain ⟨A3, c3, rfl, s3⟩ := OF.out.slice
      have HCV := fun w' (h : Bs w' A3 (2 * k) c3 (hexP l)) => run_bytes_string (dst := 9) Tryz.underlying22 Tryz.underlying5 Tryz.underlying9 h
      have hcv := HCV wr s3
      clear HCV s3 htk
      go_wp2
      go_ret
      exact ⟨rfl, OF.out.2⟩
theorem hexDs_cut (k : Nat) (h : k < 16) : (⟨#[48, 49, 50, 51, 52, 53, 54, 55, 56, 57, 97, 98, 99, 100, 101, 102]⟩ : ByteArray).extract k (k + 1) = ⟨#[hexD k]⟩ := by
  have hf : ∀ k : Fin 16, ((⟨#[48, 49, 50, 51, 52, 53, 54, 55, 56, 57, 97, 98, 99, 100, 101, 102]⟩ : ByteArray).extract k.1 (k.1 + 1)).data = #[hexD k.1] := by decide +kernel
  exact ByteArray.ext (hf ⟨k, h⟩)
theorem refHexPrint_any (A : Option Addr) (n c : Nat) (l : List UInt8) (w : World) (h : Bs w A n c l) (hn : n ≤ 100000) : Calls Tryz.prog 51 #[.slice A n c] w fun e w' => e = .returned (.string ⟨(hexP l).toArray⟩) ∧ Gr w w' := by
  have hmax := h.max
  have hcap := h.cap
  have HL := Lib.hid h.len
  have HH := Lib.hid h; clear h
  go_enter Tryz.func51, Tryz.ntmps51
  go_wp2
  go_loopw [3, 4] (fun v i wr => ∃ (k : Nat) (t : ByteArray) (q : Nat), k ≤ n ∧ i = .int .i64 k ∧ v = .string t ∧ t = ⟨(hexP (l.take k)).toArray⟩ ∧ wr = w.drewN q) (fun _ i _ => n - (intOf i).toNat)
  case atStart => exact ⟨0, _, 0, by omega, rfl, rfl, rfl, rfl⟩
  case round =>
    obtain ⟨k, t, q, hk, rfl, rfl, ht, rfl⟩ := hrel
    have HT := Lib.hid ht; clear ht
    by_cases hlt : k < n
    · obtain ⟨b, o, rfl, hc⟩ := Bs.addr (l := l) HH.out (by omega)
      have c1 := hc k hlt
      have hkl : k < l.length := by rw [HL.out]; exact hlt
      have hg : l.getD k 0 = l[k] := by simp [List.getD_eq_getElem?_getD, List.getElem?_eq_getElem hkl]
      have HS : Hid (hexP (l.take (k + 1)) = hexP (l.take k) ++ [hexD (l[k].toNat / 16), hexD (l[k].toNat % 16)]) := by
        show _ = _
        rw [List.take_succ_eq_append_getElem hkl, hexP_snoc]
      unfold bAt at c1
      rw [hg] at c1
      have htz : t.size = 2 * k := by rw [HT.out, size_of', hexP_len, List.length_take]; omega
      clear hc hg
      have hx := l[k].toNat_lt
      generalize l[k].toNat = x at *
      have h1 : IntKind.u8.wrap ((x : Int) / 16 + 1) = (x : Int) / 16 + 1 := wrap_u8 (by omega) (by omega)
      have h2 : IntKind.u8.wrap ((x : Int) % 16 + 1) = (x : Int) % 16 + 1 := wrap_u8 (by omega) (by omega)
      have h0 : IntKind.u8.wrap ((x : Int) / 16) = (x : Int) / 16 := wrap_u8 (by omega) (by omega)
      have h3 : IntKind.u8.wrap ((x : Int) % 16) = (x : Int) % 16 := wrap_u8 (by omega) (by omega)
      have d1 : (0 : Int) ≤ (x : Int) / 16 := by omega
      have d2 : (x : Int) / 16 ≤ (x : Int) / 16 + 1 := by omega
      have d3 : (x : Int) / 16 + 1 ≤ 16 := by omega
      have m1 : (0 : Int) ≤ (x : Int) % 16 := by omega
      have m2 : (x : Int) % 16 ≤ (x : Int) % 16 + 1 := by omega
      have m3 : (x : Int) % 16 + 1 ≤ 16 := by omega
      have l1 : ¬ 9223372036854775807 < t.size + 1 := by omega
      go_wp2
      go_quiet (fail)
      rw [hexDs_cut _ (by omega), hexDs_cut _ (by omega)]
      have HX : Hid (t ++ ⟨#[hexD (x / 16)]⟩ ++ ⟨#[hexD (x % 16)]⟩ = ⟨(hexP (l.take (k + 1))).toArray⟩) := by
        show _ = _
        rw [HS.out, HT.out]
        apply ByteArray.ext
        simp
      clear h0 h1 h2 h3 d1 d2 d3 m1 m2 m3 l1
      go_wp2
      refine ⟨⟨k + 1, _, _, by omega, by first | trivial | go_num, rfl, HX.out, rfl⟩, ?_⟩
      show n - ((k : Int) + 1).toNat < n - (k : Int).toNat
      omega
    · obtain rfl : k = n := by omega
      have htk : l.take k = l := List.take_of_length_le (by rw [HL.out]; omega)
      rw [htk] at HT
      go_wp2
      go_ret
      exact ⟨by rw [HT.out]; rfl, belowN (Gr.refl _) _⟩
end Go.Proofs.YtadenlhnfkccaaaGreatDoor

/- Bytes as text: Parse, the program's and the reference's. No condition. -/
namespace Go.Proofs.YtadenlhnfkccaaaGreatDoor
open Go.RowKit
set_option linter.unusedVariables false
set_option linter.unusedSimpArgs false
def RetHex (w : World) (r : List UInt8 × Nat × Nat) (e : Ending) (w' : World) : Prop := ∃ v, e = .returned (.tuple #[v, .int .i64 (r.2.1 : Int), .int .i64 (r.2.2 : Int)]) ∧ Own w w' 5 1 v r.1.length (r.1.map u8c)
theorem RetHex.none {w w' : World} (g : Gr w w') (a f : Nat) : RetHex w ([], a, f) (.returned (.tuple #[.slice none 0 0, .int .i64 (a : Int), .int .i64 (f : Int)])) w' := ⟨_, rfl, Own.nil' g _ _⟩
theorem hexG_odd {l : List UInt8} {k : Nat} (hk : k < l.length) (he : k % 2 = 0) : hexG (l.take (k + 1)) = hexG (l.take k) := by
  rw [List.take_succ_eq_append_getElem hk, hexG_one _ _ (by rw [List.length_take]; omega)]
theorem bits16 : ∀ a b : Fin 16, bits .or .u8 ((a.1 : Int) * 16) (b.1 : Int) = (a.1 : Int) * 16 + b.1 := by decide +kernel
theorem u8c_pair {a b : Nat} (ha : a < 16) (hb : b < 16) : u8c (UInt8.ofNat (a * 16 + b)) = .int .u8 ((a : Int) * 16 + b) := by
  unfold u8c
  rw [UInt8.toNat_ofNat_of_lt' (by show _ < 256; omega)]
  congr 1
set_option maxRecDepth 100000 in
set_option maxHeartbeats 1000000 in
theorem hexParse_any (l : List UInt8) (w : World) (hn : l.length ≤ 100000) : Calls Tryz.prog 60 #[.string ⟨l.toArray⟩] w (RetHex w (hexR l)) := by
  obtain ⟨s, hs⟩ : ∃ s : ByteArray, s = ⟨l.toArray⟩ := ⟨_, rfl⟩
  have hsz : s.size = l.length := by rw [hs]; exact size_of' l
  have HAT := Lib.hid (at_of l s hs)
  rw [← hs]
  clear hs
  obtain ⟨r, hr⟩ : ∃ r, r = hexR l := ⟨_, rfl⟩
  rw [← hr]
  have HR : Hid (r = if hexOk l = false then ([], hexAt l, 3) else if l.length % 2 = 1 then ([], l.length, 3) else (hexG l, 0, 0)) := hr
  clear hr
  go_enter Tryz.func60, Tryz.ntmps60
  go_wp2
  go_loopw [2, 6, 12] (fun v hi i wr => ∃ (k : Nat) (x : Int), k ≤ s.size ∧ i = .int .i64 k ∧ hi = .int .u8 x ∧ (k % 2 = 1 → x = (hexV (l.getD (k - 1) 0) : Int)) ∧ hexOk (l.take k) = true ∧ Own w wr 5 1 v (k / 2) ((hexG (l.take k)).map u8c)) (fun _ _ i _ => s.size - (intOf i).toNat)
  case atStart => exact ⟨0, 0, by omega, rfl, rfl, by omega, rfl, Own.nil _ _ _⟩
  case round =>
    obtain ⟨k, x, hk, rfl, rfl, hx, hok, ow⟩ := hrel
    have OW := Lib.hid ow; have HX := Lib.hid hx; have HOK := Lib.hid hok; clear ow hx hok
    by_cases hlt : k < s.size
    · have hkl : k < l.length := by omega
      have hg : l.getD k 0 = l[k] := by simp [List.getD_eq_getElem?_getD, List.getElem?_eq_getElem hkl]
      have c1 : ((s[k]'hlt).toNat : Int) = (l[k].toNat : Int) := by rw [HAT.out k hlt]; unfold bAt; rw [hg]
      have HV := Lib.hid (fun wr => value_any l[k] wr)
      have HBAD : Hid (¬ hexV l[k] < 16 → r = ([], k, 3)) := fun h => by
        obtain ⟨h1, h2⟩ := hexAt_ok hkl HOK.out h
        rw [HR.out, if_pos h2, h1]
      have HOK2 : Hid (hexV l[k] < 16 → hexOk (l.take (k + 1)) = true) := fun h => hexOk_snoc hkl HOK.out h
      have HG1 : Hid (k % 2 = 0 → hexG (l.take (k + 1)) = hexG (l.take k)) := fun h => hexG_odd hkl h
      have HG2 : Hid (k % 2 = 1 → hexG (l.take (k + 1)) = hexG (l.take k) ++ [UInt8.ofNat (hexV (l.getD (k - 1) 0) * 16 + hexV l[k])] ∧ hexV (l.getD (k - 1) 0) < 16) := fun h => by
        have h1 : k - 1 < l.length := by omega
        have e1 : l.getD (k - 1) 0 = l[k - 1] := by simp [List.getD_eq_getElem?_getD, List.getElem?_eq_getElem h1]
        have h2 := hexG_take2 (l := l) (k := k - 1) (by omega) (by omega)
        have h3 := hexG_odd (l := l) (k := k - 1) h1 (by omega)
        have e2 : k - 1 + 1 = k := by omega
        have e3 : k - 1 + 2 = k + 1 := by omega
        rw [e2] at h3
        rw [e3] at h2
        have e4 : l[k - 1 + 1]'(by omega) = l[k] := by congr 1
        rw [e4, ← h3, ← e1] at h2
        refine ⟨h2, ?_⟩
        have ho := HOK.out
        unfold hexOk at ho
        rw [List.all_eq_true] at ho
        have := ho l[k - 1] (List.mem_of_getElem? (i := k - 1) (by rw [List.getElem?_take, if_pos (by omega), List.getElem?_eq_getElem h1]))
        rw [e1]
        exact of_decide_eq_true this
      have HGX : Hid (l.getD (k + 1 - 1) 0 = l[k]) := by show _ = _; rw [Nat.add_sub_cancel, hg]
      clear hg
      generalize l[k] = y at *
      unfold u8c at HV
      by_cases hv : hexV y < 16
      · rw [if_pos hv, decide_eq_true hv] at HV
        have HK2 := Lib.hid (HOK2.out hv)
        clear HBAD HOK2
        by_cases he : k % 2 = 0
        · have t1 : (((k : Int) % 2) == 0) = true := beq_iff_eq.2 (by omega)
          have HE := Lib.hid (HG1.out he)
          have OE : Hid (Own w wr 5 1 u2 ((k + 1) / 2) ((hexG (l.take (k + 1))).map u8c)) := by
            show Own _ _ _ _ _ _ _
            rw [HE.out, show (k + 1) / 2 = k / 2 by omega]
            exact OW.out
          clear HG1 HG2
          go_wp2_with fail
          refine (HV.out _).mono ?_
          rintro e w1 ⟨rfl, rfl⟩
          go_wp2_with fail
          refine ⟨⟨k + 1, _, by omega, by first | trivial | go_num, rfl, fun _ => by rw [HGX.out], HK2.out, OE.out⟩, ?_⟩
          show s.size - ((k : Int) + 1).toNat < s.size - (k : Int).toNat
          omega
        · have t1 : (((k : Int) % 2) == 0) = false := beq_eq_false_iff_ne.2 (by omega)
          obtain ⟨g1, g2⟩ := HG2.out (by omega)
          have hxx := HX.out (by omega)
          have HE := Lib.hid g1
          clear HG1 HG2 g1
          generalize hexV (l.getD (k - 1) 0) = z at *
          subst hxx
          generalize hexV y = v at *
          go_wp2_with fail
          refine (HV.out _).mono ?_
          rintro e w1 ⟨rfl, rfl⟩
          have hb : bits .or .u8 ((z : Int) * 16) (v : Int) = (z : Int) * 16 + v := bits16 ⟨z, g2⟩ ⟨v, hv⟩
          have HU := Lib.hid (u8c_pair g2 hv)
          go_wp2_with (at_builtin; refine wpList_push rfl (.tmp 30) (.tmp 35) 22 rfl tBytes rfl OW.out #[.int .u8 ((z : Int) * 16 + v)] rfl rfl (by intro u hu; simp at hu; subst hu; rfl) (by omega) ?_; intro v1 wn o1)
          have OE : Hid (Own w wn 5 1 v1 ((k + 1) / 2) ((hexG (l.take (k + 1))).map u8c)) := by
            show Own _ _ _ _ _ _ _
            rw [HE.out, List.map_append, show (k + 1) / 2 = k / 2 + 1 by omega]
            show Own _ _ _ _ _ _ (_ ++ [u8c _])
            rw [HU.out]
            exact o1
          clear o1
          go_wp2_with fail
          refine ⟨⟨k + 1, _, by omega, by first | trivial | go_num, rfl, fun h => absurd h (by omega), HK2.out, OE.out⟩, ?_⟩
          show s.size - ((k : Int) + 1).toNat < s.size - (k : Int).toNat
          omega
      · rw [if_neg hv, decide_eq_false hv] at HV
        have HF := Lib.hid (HBAD.out hv)
        go_wp2_with fail
        refine (HV.out _).mono ?_
        rintro e w1 ⟨rfl, rfl⟩
        go_wp2_with fail
        go_ret3
        rw [HF.out]
        exact RetHex.none OW.out.2 _ _
    · have hke : k = l.length := by omega
      subst hke
      have htk : l.take l.length = l := List.take_length
      rw [htk] at HOK OW
      by_cases he : l.length % 2 = 1
      · have t1 : (((l.length : Int) % 2) != 0) = true := bne_iff_ne.2 (by omega)
        have HF : Hid (r = ([], l.length, 3)) := by show _ = _; rw [HR.out, if_neg (by rw [HOK.out]; decide), if_pos he]
        go_wp2_with fail
        go_ret3
        rw [HF.out]
        exact RetHex.none OW.out.2 _ _
      · have t1 : (((l.length : Int) % 2) != 0) = false := by rw [bne_eq_false_iff_eq]; omega
        have HF : Hid (r = (hexG l, 0, 0)) := by show _ = _; rw [HR.out, if_neg (by rw [HOK.out]; decide), if_neg he]
        go_wp2_with fail
        go_ret3
        rw [HF.out]
        exact ⟨_, rfl, by show Own _ _ _ _ _ (hexG l).length _; rw [hexG_len]; exact OW.out⟩
set_option maxRecDepth 100000 in
set_option maxHeartbeats 1000000 in
theorem refHexParse_any (l : List UInt8) (w : World) (hn : l.length ≤ 100000) : Calls Tryz.prog 37 #[.string ⟨l.toArray⟩] w (RetHex w (hexR l)) := by
  obtain ⟨s, hs⟩ : ∃ s : ByteArray, s = ⟨l.toArray⟩ := ⟨_, rfl⟩
  have hsz : s.size = l.length := by rw [hs]; exact size_of' l
  have HAT := Lib.hid (at_of l s hs)
  rw [← hs]
  clear hs
  obtain ⟨r, hr⟩ : ∃ r, r = hexR l := ⟨_, rfl⟩
  rw [← hr]
  have HR : Hid (r = if hexOk l = false then ([], hexAt l, 3) else if l.length % 2 = 1 then ([], l.length, 3) else (hexG l, 0, 0)) := hr
  clear hr
  have HVAL : Hid (∀ (c : UInt8) wr, hexV c < 16 → Calls Tryz.prog 67 #[.int .u8 (c.toNat : Int)] wr fun e w' => e = .returned (.int .i64 (hexV c : Int)) ∧ w' = wr) := fun c wr h => by
    have := refValue_any c wr
    rw [if_pos h] at this
    exact this
  have HVALN : Hid (∀ (c : UInt8) wr, ¬ hexV c < 16 → Calls Tryz.prog 67 #[.int .u8 (c.toNat : Int)] wr fun e w' => e = .returned (.int .i64 (-1)) ∧ w' = wr) := fun c wr h => by
    have := refValue_any c wr
    rw [if_neg h] at this
    exact this
  go_enter Tryz.func37, Tryz.ntmps37
  go_wp2
  go_loopw [5] (fun i wr => ∃ k : Nat, k ≤ s.size ∧ i = .int .i64 k ∧ hexOk (l.take k) = true ∧ w = wr) (fun i _ => s.size - (intOf i).toNat)
  case atStart => exact ⟨0, by omega, rfl, rfl, rfl⟩
  case round =>
    obtain ⟨k, hk, rfl, hok, rfl⟩ := hrel
    have HOK := Lib.hid hok; clear hok
    by_cases hlt : k < s.size
    · have hkl : k < l.length := by omega
      have hg : l.getD k 0 = l[k] := by simp [List.getD_eq_getElem?_getD, List.getElem?_eq_getElem hkl]
      have c1 : ((s[k]'hlt).toNat : Int) = (l[k].toNat : Int) := by rw [HAT.out k hlt]; unfold bAt; rw [hg]
      have HBAD : Hid (¬ hexV l[k] < 16 → r = ([], k, 3)) := fun h => by
        obtain ⟨h1, h2⟩ := hexAt_ok hkl HOK.out h
        rw [HR.out, if_pos h2, h1]
      have HOK2 : Hid (hexV l[k] < 16 → hexOk (l.take (k + 1)) = true) := fun h => hexOk_snoc hkl HOK.out h
      clear hg
      generalize l[k] = y at *
      by_cases hv : hexV y < 16
      · have HK2 := Lib.hid (HOK2.out hv)
        have t1 : decide (((hexV y : Nat) : Int) < 0) = false := decide_eq_false (by omega)
        go_wp2_with fail
        refine (HVAL.out y _ hv).mono ?_
        rintro e w1 ⟨rfl, rfl⟩
        go_wp2_with fail
        refine ⟨⟨k + 1, by omega, by first | trivial | go_num, HK2.out, by first | trivial | rfl⟩, ?_⟩
        show s.size - ((k : Int) + 1).toNat < s.size - (k : Int).toNat
        omega
      · have HF := Lib.hid (HBAD.out hv)
        go_wp2_with fail
        refine (HVALN.out y _ hv).mono ?_
        rintro e w1 ⟨rfl, rfl⟩
        go_wp2_with fail
        go_ret3
        rw [HF.out]
        exact RetHex.none (Gr.refl _) _ _
    · have hke : k = l.length := by omega
      subst hke
      have htk : l.take l.length = l := List.take_length
      rw [htk] at HOK
      by_cases he : l.length % 2 = 1
      · have t1 : (((l.length : Int) % 2) == 1) = true := beq_iff_eq.2 (by omega)
        have HF : Hid (r = ([], l.length, 3)) := by show _ = _; rw [HR.out, if_neg (by rw [HOK.out]; decide), if_pos he]
        go_wp2_with fail
        go_ret3
        rw [HF.out]
        exact RetHex.none (Gr.refl _) _ _
      · have t1 : (((l.length : Int) % 2) == 1) = false := beq_eq_false_iff_ne.2 (by omega)
        have HF : Hid (r = (hexG l, 0, 0)) := by show _ = _; rw [HR.out, if_neg (by rw [HOK.out]; decide), if_neg he]
        clear HR
        go_wp2_with fail
        go_loopw [6, 7] (fun v i ws => ∃ k : Nat, k ≤ s.size ∧ k % 2 = 0 ∧ i = .int .i64 (k : Int) ∧ Own w ws 5 1 v (k / 2) ((hexG (l.take k)).map u8c)) (fun _ i _ => s.size - (intOf i).toNat)
        case atStart => exact ⟨0, by omega, rfl, rfl, Own.nil _ _ _⟩
        case round =>
          obtain ⟨k, hk2, hke, rfl, ow⟩ := hrel
          have OW := Lib.hid ow; clear ow
          by_cases hl2 : k < s.size
          · have hl1 : k + 1 < s.size := by omega
            have hk1 : k < l.length := by omega
            have hk3 : k + 1 < l.length := by omega
            have g1 : l.getD k 0 = l[k] := by simp [List.getD_eq_getElem?_getD, List.getElem?_eq_getElem hk1]
            have g2 : l.getD (k + 1) 0 = l[k + 1] := by simp [List.getD_eq_getElem?_getD, List.getElem?_eq_getElem hk3]
            have c1 : ((s[k]'hl2).toNat : Int) = (l[k].toNat : Int) := by rw [HAT.out k hl2]; unfold bAt; rw [g1]
            have c2 : ((s[k + 1]'hl1).toNat : Int) = (l[k + 1].toNat : Int) := by rw [HAT.out (k + 1) hl1]; unfold bAt; rw [g2]
            have hall := HOK.out
            unfold hexOk at hall
            rw [List.all_eq_true] at hall
            have v1 : hexV l[k] < 16 := of_decide_eq_true (hall _ (List.getElem_mem hk1))
            have v2 : hexV l[k + 1] < 16 := of_decide_eq_true (hall _ (List.getElem_mem hk3))
            have HG := Lib.hid (hexG_take2 hk3 hke)
            clear g1 g2 hall
            generalize l[k] = y1 at *
            generalize l[k + 1] = y2 at *
            have HV1 := Lib.hid (fun wr => HVAL.out y1 wr v1)
            have HV2 := Lib.hid (fun wr => HVAL.out y2 wr v2)
            have HU := Lib.hid (u8c_pair v1 v2)
            generalize hexV y1 = z1 at *
            generalize hexV y2 = z2 at *
            have hw : IntKind.u8.wrap ((z1 : Int) * 16 + z2) = (z1 : Int) * 16 + z2 := wrap_u8 (by omega) (by omega)
            have i1 : (k : Int) + 1 < (l.length : Int) := by omega
            have i2 : ((k : Int) + 1).toNat = k + 1 := by omega
            have i0 : (0 : Int) ≤ (k : Int) + 1 := by omega
            have q1 : IntKind.i64.wrap ((k : Int) + 1) = (k : Int) + 1 := by rw [IntKind.wrap_i64]; omega
            have q2 : IntKind.i64.wrap ((z1 : Int) * 16) = (z1 : Int) * 16 := by rw [IntKind.wrap_i64]; omega
            have q3 : IntKind.i64.wrap ((z1 : Int) * 16 + z2) = (z1 : Int) * 16 + z2 := by rw [IntKind.wrap_i64]; omega
            go_wp2_with fail
            go_region_law (first
              | (refine step_push rfl (.tmp 32) (.tmp 45) 22 rfl tBytes rfl (by exact (OW.out.drew).alloc _) _ _ [.int .u8 ((z1 : Int) * 16 + z2)] rfl rfl (by intro u hu; simp at hu; subst hu; rfl) (by exact cells_new _ 0 #[.int .u8 ((z1 : Int) * 16 + z2)] _) (by omega) ?_; intro v1 w1 o1)
              | (go_simp; go_at_call 67; first | (with_reducible refine (HV1.out _).mono ?_) | (with_reducible refine (HV2.out _).mono ?_); rintro e w1 ⟨rfl, rfl⟩))
            all_goals
              have OE : Hid (Own w w1 5 1 v1 ((k + 2) / 2) ((hexG (l.take (k + 2))).map u8c)) := by
                show Own _ _ _ _ _ _ _
                rw [HG.out, List.map_append, show (k + 2) / 2 = k / 2 + 1 by omega]
                show Own _ _ _ _ _ _ (_ ++ [u8c _])
                rw [HU.out]
                exact o1
              clear o1 q1 q2 q3
              go_wp2
              go_roundw
              case rel => exact ⟨k + 2, by omega, by omega, by first | trivial | go_num, OE.out⟩
              case measure =>
                show s.size - ((k : Int) + 2).toNat < s.size - (k : Int).toNat
                omega
          · obtain rfl : k = s.size := by omega
            rw [hsz] at OW
            rw [htk] at OW
            go_wp2_with fail
            go_ret3
            rw [HF.out]
            exact ⟨_, rfl, by show Own _ _ _ _ _ (hexG l).length _; rw [hexG_len]; exact OW.out⟩
end Go.Proofs.YtadenlhnfkccaaaGreatDoor

/- Operations as lines: counts, parts, what is said, the forms. No condition. -/
namespace Go.Proofs.YtadenlhnfkccaaaGreatDoor
open Go.RowKit
set_option linter.unusedVariables false
set_option linter.unusedSimpArgs false
theorem count_any (n : Int) (w : World) (h0 : -9223372036854775808 ≤ n) (h1 : n ≤ 9223372036854775807) (ht : Pow10 w) : Calls Tryz.prog 93 #[.int .i64 n] w fun e w' => e = .returned (strc (countT n)) ∧ Gr w w' := by
  have HP : Hid (Calls Tryz.prog 73 #[.int .i64 n] w fun e w' => e = .returned (strc (printL n)) ∧ Gr w w') := print_any n w h0 h1 ht
  clear ht
  by_cases h : 1073741824 < n
  · have t1 : decide (1073741824 < n) = true := decide_eq_true h
    have HF : Hid (countT n = []) := if_pos h
    go_enter Tryz.func93, Tryz.ntmps93
    go_wp2_with fail
    go_ret
    exact ⟨by rw [HF.out]; rfl, Gr.refl _⟩
  · have t1 : decide (1073741824 < n) = false := decide_eq_false h
    have HF : Hid (countT n = printL n) := if_neg h
    rw [HF.out]
    obtain ⟨x, hx⟩ : ∃ x : ByteArray, strc (printL n) = .string x := ⟨_, rfl⟩
    rw [hx] at HP ⊢
    clear hx
    go_enter Tryz.func93, Tryz.ntmps93
    go_wp2_with fail
    refine HP.out.mono ?_
    rintro e w1 ⟨rfl, g1⟩
    have G1 := Lib.hid g1; clear g1
    go_wp2_with fail
    go_ret
    exact ⟨rfl, G1.out⟩
theorem count_neg {n : Int} (h : n < 0) : countT n = [] := by
  unfold countT printL
  rw [if_neg (by omega), if_pos h]
theorem refCount39_any (n : Int) (w : World) (h0 : -9223372036854775808 ≤ n) (h1 : n ≤ 9223372036854775807) : Calls Tryz.prog 97 #[.int .i64 n] w fun e w' => e = .returned (strc (countT n)) ∧ Gr w w' := by
  have HP : Hid (Calls Tryz.prog 50 #[.int .i64 n] w fun e w' => e = .returned (strc (printL n)) ∧ Gr w w') := refPrint_any n.toNat n w (by omega) h1
  by_cases hn : n < 0
  · have t0 : decide (n < 0) = true := decide_eq_true hn
    have HF : Hid (countT n = []) := count_neg hn
    go_enter Tryz.func97, Tryz.ntmps97
    go_wp2_with fail
    go_ret
    exact ⟨by rw [HF.out]; rfl, Gr.refl _⟩
  have t0 : decide (n < 0) = false := decide_eq_false hn
  by_cases h : 1073741824 < n
  · have t1 : decide (1073741824 < n) = true := decide_eq_true h
    have HF : Hid (countT n = []) := if_pos h
    go_enter Tryz.func97, Tryz.ntmps97
    go_wp2_with fail
    go_ret
    exact ⟨by rw [HF.out]; rfl, Gr.refl _⟩
  · have t1 : decide (1073741824 < n) = false := decide_eq_false h
    have HF : Hid (countT n = printL n) := if_neg h
    rw [HF.out]
    obtain ⟨x, hx⟩ : ∃ x : ByteArray, strc (printL n) = .string x := ⟨_, rfl⟩
    rw [hx] at HP ⊢
    clear hx
    go_enter Tryz.func97, Tryz.ntmps97
    go_wp2_with fail
    refine HP.out.mono ?_
    rintro e w1 ⟨rfl, g1⟩
    have G1 := Lib.hid g1; clear g1
    go_wp2_with fail
    go_ret
    exact ⟨rfl, G1.out⟩
theorem opPart_any (l : List UInt8) (w : World) (hl : l.length ≤ 100000) : Calls Tryz.prog 92 #[strc l] w fun e w' => e = .returned (strc (partT l)) ∧ Gr w w' := by
  have HP : Hid (Calls Tryz.prog 59 #[strc l] w fun e w' => e = .returned (.bool (partL l)) ∧ Gr w w') := part_any l w (by omega)
  obtain ⟨x, hx⟩ : ∃ x : ByteArray, strc l = .string x := ⟨_, rfl⟩
  cases hp : partL l with
  | true =>
    have HF : Hid (partT l = l) := if_pos hp
    rw [HF.out]
    rw [hp] at HP
    rw [hx] at HP ⊢
    clear hx hp
    go_enter Tryz.func92, Tryz.ntmps92
    go_wp2_with fail
    refine HP.out.mono ?_
    rintro e w1 ⟨rfl, g1⟩
    have G1 := Lib.hid g1; clear g1
    go_wp2_with fail
    go_ret
    exact ⟨rfl, G1.out⟩
  | false =>
    have HF : Hid (partT l = []) := if_neg (by rw [hp]; decide)
    rw [HF.out]
    rw [hp] at HP
    rw [hx] at HP ⊢
    clear hx hp
    go_enter Tryz.func92, Tryz.ntmps92
    go_wp2_with fail
    refine HP.out.mono ?_
    rintro e w1 ⟨rfl, g1⟩
    have G1 := Lib.hid g1; clear g1
    go_wp2_with fail
    go_ret
    exact ⟨rfl, G1.out⟩
/-! ### what is said -/
def sayCells : Array Value := #[.string ⟨#[]⟩, .string ⟨#[97, 99, 99, 101, 112, 116, 101, 100]⟩, .string ⟨#[111, 116, 104, 101, 114]⟩, .string ⟨#[110, 111, 116, 104, 105, 110, 103]⟩]
theorem saySize : (Tryz.prog.info? 132).map (·.size) = some 4 := by kernel_rfl
theorem sayings_any (w : World) : Calls Tryz.prog 77 #[] w fun e w' => e = .returned (.agg sayCells) ∧ Gr w w' := by
  go_enter Tryz.func77, Tryz.ntmps77
  go_wp2_with fail
  exact bodyPost_ret (v := .agg sayCells) (results_cell_row Tryz.results77 _ _ w.heap.size 132 sayCells (0, 0) _ rfl (heap_alloc_new w _) Tryz.underlying132 rfl saySize) rfl ⟨rfl, Gr.alloc w _⟩
def formCells : Array Value := #[.string ⟨#[]⟩, .string ⟨#[]⟩, .string ⟨#[99, 114, 101, 97, 116, 101]⟩, .string ⟨#[103, 115, 120]⟩, .string ⟨#[110, 101, 120, 116]⟩, .string ⟨#[103, 101, 115, 110]⟩, .string ⟨#[115, 116, 97, 103, 101]⟩, .string ⟨#[103, 105, 120]⟩, .string ⟨#[118, 101, 114, 100, 105, 99, 116]⟩, .string ⟨#[103, 101, 105, 118]⟩, .string ⟨#[101, 120, 112, 111, 114, 116]⟩, .string ⟨#[103, 101]⟩, .string ⟨#[99, 108, 111, 115, 101]⟩, .string ⟨#[103]⟩, .string ⟨#[107, 101, 121, 112, 117, 116]⟩, .string ⟨#[105, 120]⟩, .string ⟨#[107, 101, 121, 116, 97, 107, 101]⟩, .string ⟨#[105]⟩, .string ⟨#[108, 111, 111, 107]⟩, .string ⟨#[103]⟩]
theorem formSize : (Tryz.prog.info? 107).map (·.size) = some 20 := by kernel_rfl
theorem below_row39 {B : Nat} {w0 w : World} {g : Nat} (h : Below B w0 w) (hg : B ≤ g) (cs : Array Value) : Below B w0 (w.setRow g cs) :=
  ⟨h.os, h.tape, h.output, by simpa [World.setRow] using h.size, fun k hk => by
    have hne : g ≠ k := by omega
    rw [← h.block k hk]
    simp [World.setRow, Array.getElem?_modify, hne]⟩
theorem formOne : formCells.all (·.oneCell') = true := by
  rw [Array.all_eq_true']
  intro v hv
  have : v ∈ formCells.toList := Array.mem_toList_iff.2 hv
  simp only [formCells, List.mem_cons, List.not_mem_nil, or_false] at this
  rcases this with h | h | h | h | h | h | h | h | h | h | h | h | h | h | h | h | h | h | h | h <;> subst h <;> rfl
set_option maxRecDepth 100000 in
theorem forms_any (w : World) : Calls Tryz.prog 52 #[] w fun e w' => e = .returned (.agg formCells) ∧ Gr w w' := by
  have HO := Lib.hid formOne
  have hb : Hid (Below w.heap.size w ((w.alloc (.cells (reps 20 (.string ⟨#[]⟩)).toArray 107)).setRow w.heap.size formCells)) := below_row39 ((Below.refl _ _).alloc (Nat.le_refl _) _) (Nat.le_refl _) _
  have HN : Hid (((w.alloc (.cells (reps 20 (.string ⟨#[]⟩)).toArray 107)).setRow w.heap.size formCells).heap[w.heap.size]? = some (.cells formCells 107 (0, 0))) := setRow_heap _ w.heap.size _ _ _ _ (heap_alloc_new w _)
  go_enter Tryz.func52, Tryz.ntmps52
  go_wp2_with (refine wpList_store_row rfl 107 (.tmp 0) (.tmp 10) rfl w.heap.size formCells rfl rfl 107 (reps 20 (.string ⟨#[]⟩)).toArray (by exact heap_alloc_new w _) formSize rfl HO.out ?_)
  exact bodyPost_ret (v := .agg formCells) (results_cell_row Tryz.results52 _ _ w.heap.size 107 _ (0, 0) _ rfl HN.out Tryz.underlying107 rfl formSize) rfl ⟨rfl, hb.out⟩
theorem refSaid_any (n : Int) (w : World) : Calls Tryz.prog 85 #[.int .i64 n] w fun e w' => e = .returned (strc (sayT n)) ∧ Gr w w' := by
  by_cases h1 : n < 1
  · have t1 : decide (n < 1) = true := decide_eq_true h1
    have HF : Hid (sayT n = []) := by show _ = _; unfold sayT; rw [if_neg (by omega), if_neg (by omega), if_neg (by omega)]
    go_enter Tryz.func85, Tryz.ntmps85
    go_wp2_with fail
    go_ret
    exact ⟨by rw [HF.out]; rfl, Gr.refl _⟩
  have t1 : decide (n < 1) = false := decide_eq_false h1
  by_cases h3 : 3 < n
  · have t3 : decide (3 < n) = true := decide_eq_true h3
    have HF : Hid (sayT n = []) := by show _ = _; unfold sayT; rw [if_neg (by omega), if_neg (by omega), if_neg (by omega)]
    go_enter Tryz.func85, Tryz.ntmps85
    go_wp2_with fail
    go_ret
    exact ⟨by rw [HF.out]; rfl, Gr.refl _⟩
  clear t1
  rcases show n = 1 ∨ n = 2 ∨ n = 3 by omega with rfl | rfl | rfl
  all_goals
    clear h1 h3
    go_enter Tryz.func85, Tryz.ntmps85
    go_wp2_with fail
    go_ret
    exact ⟨rfl, Gr.alloc _ _⟩
theorem formCells_w (k : Nat) (hk : k < 10) : formCells.toList[2 * k]? = some (strc (formW k)) := by
  rcases show k = 0 ∨ k = 1 ∨ k = 2 ∨ k = 3 ∨ k = 4 ∨ k = 5 ∨ k = 6 ∨ k = 7 ∨ k = 8 ∨ k = 9 by omega with rfl | rfl | rfl | rfl | rfl | rfl | rfl | rfl | rfl | rfl <;> rfl
theorem formCells_s (k : Nat) (hk : k < 10) : formCells.toList[2 * k + 1]? = some (strc (formS k)) := by
  rcases show k = 0 ∨ k = 1 ∨ k = 2 ∨ k = 3 ∨ k = 4 ∨ k = 5 ∨ k = 6 ∨ k = 7 ∨ k = 8 ∨ k = 9 by omega with rfl | rfl | rfl | rfl | rfl | rfl | rfl | rfl | rfl | rfl <;> rfl
def kindWs : Array Value := #[.string ⟨#[]⟩, .string ⟨#[99, 114, 101, 97, 116, 101]⟩, .string ⟨#[110, 101, 120, 116]⟩, .string ⟨#[115, 116, 97, 103, 101]⟩, .string ⟨#[118, 101, 114, 100, 105, 99, 116]⟩, .string ⟨#[101, 120, 112, 111, 114, 116]⟩, .string ⟨#[99, 108, 111, 115, 101]⟩, .string ⟨#[107, 101, 121, 112, 117, 116]⟩, .string ⟨#[107, 101, 121, 116, 97, 107, 101]⟩, .string ⟨#[108, 111, 111, 107]⟩]
def kindSs : Array Value := #[.string ⟨#[]⟩, .string ⟨#[103, 115, 120]⟩, .string ⟨#[103, 101, 115, 110]⟩, .string ⟨#[103, 105, 120]⟩, .string ⟨#[103, 101, 105, 118]⟩, .string ⟨#[103, 101]⟩, .string ⟨#[103]⟩, .string ⟨#[105, 120]⟩, .string ⟨#[105]⟩, .string ⟨#[103]⟩]
theorem kindWs_at (k : Nat) (hk : k < 10) : kindWs.toList[k]? = some (strc (formW k)) := by
  rcases show k = 0 ∨ k = 1 ∨ k = 2 ∨ k = 3 ∨ k = 4 ∨ k = 5 ∨ k = 6 ∨ k = 7 ∨ k = 8 ∨ k = 9 by omega with rfl | rfl | rfl | rfl | rfl | rfl | rfl | rfl | rfl | rfl <;> rfl
theorem kindSs_at (k : Nat) (hk : k < 10) : kindSs.toList[k]? = some (strc (formS k)) := by
  rcases show k = 0 ∨ k = 1 ∨ k = 2 ∨ k = 3 ∨ k = 4 ∨ k = 5 ∨ k = 6 ∨ k = 7 ∨ k = 8 ∨ k = 9 by omega with rfl | rfl | rfl | rfl | rfl | rfl | rfl | rfl | rfl | rfl <;> rfl
set_option maxRecDepth 100000 in
theorem kinds_any (k : Nat) (w : World) (hk : k < 10) : Calls Tryz.prog 62 #[.int .i64 (k : Int)] w fun e w' => e = .returned (.tuple #[strc (formW k), strc (formS k)]) ∧ Gr w w' := by
  by_cases h0 : k < 1
  · obtain rfl : k = 0 := by omega
    have t1 : decide (((0 : Nat) : Int) < 1) = true := by decide
    go_enter Tryz.func62, Tryz.ntmps62
    go_wp2_with fail
    go_ret2
    exact ⟨rfl, (Gr.alloc w _).trans (Gr.alloc _ _)⟩
  · have t1 : decide ((k : Int) < 1) = false := decide_eq_false (by omega)
    have t2 : decide ((9 : Int) < (k : Int)) = false := decide_eq_false (by omega)
    have hi : (k : Int) < 10 := by omega
    have hw := Lib.hid (kindWs_at k hk)
    have hs := Lib.hid (kindSs_at k hk)
    obtain ⟨x, hx⟩ : ∃ x : ByteArray, strc (formW k) = .string x := ⟨_, rfl⟩
    obtain ⟨y, hy⟩ : ∃ y : ByteArray, strc (formS k) = .string y := ⟨_, rfl⟩
    rw [hx] at hw ⊢
    rw [hy] at hs ⊢
    clear hx hy
    go_enter Tryz.func62, Tryz.ntmps62
    go_wp2_with fail
    have b1 : Blk ((w.alloc (.cells kindWs 9)).alloc (.cells kindSs 9)) w.heap.size 9 kindWs.toList := (Blk.new w 9 kindWs).mono (Gr.alloc _ _)
    have b2 : Blk ((w.alloc (.cells kindWs 9)).alloc (.cells kindSs 9)) (w.heap.size + 1) 9 kindSs.toList := by
      have := Blk.new (w.alloc (.cells kindWs 9)) 9 kindSs
      rw [show (w.alloc (.cells kindWs 9)).heap.size = w.heap.size + 1 by simp] at this
      exact this
    have g2 : Gr w ((w.alloc (.cells kindWs 9)).alloc (.cells kindSs 9)) := (Gr.alloc w _).trans (Gr.alloc _ _)
    have c1 := (b1.cell k).trans hw.out
    have c2 := (b2.cell k).trans hs.out
    clear b1 b2
    obtain ⟨wl, hwl⟩ : ∃ wl, wl = (w.alloc (.cells kindWs 9)).alloc (.cells kindSs 9) := ⟨_, rfl⟩
    rw [← hwl] at c1 c2 g2
    have G2 := Lib.hid g2; clear g2
    show Code.wp _ _ _ _ ((w.alloc (.cells kindWs 9)).alloc (.cells kindSs 9))
    rw [← hwl]
    clear hwl
    go_quiet (fail)
    go_wp2
    go_ret2
    exact ⟨rfl, G2.out.trans (belowN (Gr.refl _) _)⟩
end Go.Proofs.YtadenlhnfkccaaaGreatDoor

/- Operations as lines: fields. No condition. -/
namespace Go.Proofs.YtadenlhnfkccaaaGreatDoor
open Go.RowKit
set_option linter.unusedVariables false
set_option linter.unusedSimpArgs false
/-- An operation's cells. -/
def opC (o : OpD) (A : Option Addr) (m c : Nat) : Array Value := #[.int .i64 o.k, strc o.g, strc o.i, .int .i64 o.e, .int .i64 o.s, .int .i64 o.n, .int .i64 o.v, .slice A m c]
def opV (o : OpD) (A : Option Addr) (m c : Nat) : Value := .agg (opC o A m c)
/-- What an operation's numbers and texts keep to. -/
structure OpOk (o : OpD) : Prop where
  k : -9223372036854775808 ≤ o.k ∧ o.k ≤ 9223372036854775807
  e : -9223372036854775808 ≤ o.e ∧ o.e ≤ 9223372036854775807
  s : -9223372036854775808 ≤ o.s ∧ o.s ≤ 9223372036854775807
  n : -9223372036854775808 ≤ o.n ∧ o.n ≤ 9223372036854775807
  v : -9223372036854775808 ≤ o.v ∧ o.v ≤ 9223372036854775807
  g : o.g.length ≤ 100000
  i : o.i.length ≤ 100000
  x : o.x.length ≤ 100000
theorem field_g (k : Int) (gt it : List UInt8) (ee sn n v : Int) (A : Option Addr) (m c : Nat) (w : World) (hl : gt.length ≤ 100000) :
    Calls Tryz.prog 71 #[.agg #[.int .i64 k, strc gt, strc it, .int .i64 ee, .int .i64 sn, .int .i64 n, .int .i64 v, .slice A m c], .int .i32 103] w fun e w' => e = .returned (strc (partT gt)) ∧ Gr w w' := by
  have G0 : Hid (Gr w (w.alloc (.cells #[.int .i64 k, strc gt, strc it, .int .i64 ee, .int .i64 sn, .int .i64 n, .int .i64 v, .slice A m c] 24))) := Gr.alloc w _
  have HC : Hid (Calls Tryz.prog 92 #[strc gt] (w.alloc (.cells #[.int .i64 k, strc gt, strc it, .int .i64 ee, .int .i64 sn, .int .i64 n, .int .i64 v, .slice A m c] 24)) fun e w' => e = .returned (strc (partT gt)) ∧ Gr (w.alloc (.cells #[.int .i64 k, strc gt, strc it, .int .i64 ee, .int .i64 sn, .int .i64 n, .int .i64 v, .slice A m c] 24)) w') := opPart_any gt _ hl
  go_enter Tryz.func71, Tryz.ntmps71
  go_wp2_with fail
  refine HC.out.mono ?_
  rintro e w2 ⟨rfl, g2⟩
  have G2 := Lib.hid g2; clear g2
  go_wp2_with fail
  go_ret
  exact ⟨rfl, (G0.out).trans G2.out⟩
theorem field_i (k : Int) (gt it : List UInt8) (ee sn n v : Int) (A : Option Addr) (m c : Nat) (w : World) (hl : it.length ≤ 100000) :
    Calls Tryz.prog 71 #[.agg #[.int .i64 k, strc gt, strc it, .int .i64 ee, .int .i64 sn, .int .i64 n, .int .i64 v, .slice A m c], .int .i32 105] w fun e w' => e = .returned (strc (partT it)) ∧ Gr w w' := by
  have G0 : Hid (Gr w (w.alloc (.cells #[.int .i64 k, strc gt, strc it, .int .i64 ee, .int .i64 sn, .int .i64 n, .int .i64 v, .slice A m c] 24))) := Gr.alloc w _
  have HC : Hid (Calls Tryz.prog 92 #[strc it] (w.alloc (.cells #[.int .i64 k, strc gt, strc it, .int .i64 ee, .int .i64 sn, .int .i64 n, .int .i64 v, .slice A m c] 24)) fun e w' => e = .returned (strc (partT it)) ∧ Gr (w.alloc (.cells #[.int .i64 k, strc gt, strc it, .int .i64 ee, .int .i64 sn, .int .i64 n, .int .i64 v, .slice A m c] 24)) w') := opPart_any it _ hl
  go_enter Tryz.func71, Tryz.ntmps71
  go_wp2_with fail
  refine HC.out.mono ?_
  rintro e w2 ⟨rfl, g2⟩
  have G2 := Lib.hid g2; clear g2
  go_wp2_with fail
  go_ret
  exact ⟨rfl, (G0.out).trans G2.out⟩
theorem field_e (k : Int) (gt it : List UInt8) (ee sn n v : Int) (A : Option Addr) (m c : Nat) (w : World) (h0 : -9223372036854775808 ≤ ee) (h1 : ee ≤ 9223372036854775807) (hT : Pow10 w) :
    Calls Tryz.prog 71 #[.agg #[.int .i64 k, strc gt, strc it, .int .i64 ee, .int .i64 sn, .int .i64 n, .int .i64 v, .slice A m c], .int .i32 101] w fun e w' => e = .returned (strc (countT ee)) ∧ Gr w w' := by
  have G0 : Hid (Gr w (w.alloc (.cells #[.int .i64 k, strc gt, strc it, .int .i64 ee, .int .i64 sn, .int .i64 n, .int .i64 v, .slice A m c] 24))) := Gr.alloc w _
  have HC : Hid (Calls Tryz.prog 93 #[.int .i64 ee] (w.alloc (.cells #[.int .i64 k, strc gt, strc it, .int .i64 ee, .int .i64 sn, .int .i64 n, .int .i64 v, .slice A m c] 24)) fun e w' => e = .returned (strc (countT ee)) ∧ Gr (w.alloc (.cells #[.int .i64 k, strc gt, strc it, .int .i64 ee, .int .i64 sn, .int .i64 n, .int .i64 v, .slice A m c] 24)) w') := count_any ee _ h0 h1 (hT.mono (Gr.alloc w _))
  go_enter Tryz.func71, Tryz.ntmps71
  go_wp2_with fail
  refine HC.out.mono ?_
  rintro e w2 ⟨rfl, g2⟩
  have G2 := Lib.hid g2; clear g2
  go_wp2_with fail
  go_ret
  exact ⟨rfl, (G0.out).trans G2.out⟩
theorem field_s (k : Int) (gt it : List UInt8) (ee sn n v : Int) (A : Option Addr) (m c : Nat) (w : World) (h0 : -9223372036854775808 ≤ sn) (h1 : sn ≤ 9223372036854775807) (hT : Pow10 w) :
    Calls Tryz.prog 71 #[.agg #[.int .i64 k, strc gt, strc it, .int .i64 ee, .int .i64 sn, .int .i64 n, .int .i64 v, .slice A m c], .int .i32 115] w fun e w' => e = .returned (strc (countT sn)) ∧ Gr w w' := by
  have G0 : Hid (Gr w (w.alloc (.cells #[.int .i64 k, strc gt, strc it, .int .i64 ee, .int .i64 sn, .int .i64 n, .int .i64 v, .slice A m c] 24))) := Gr.alloc w _
  have HC : Hid (Calls Tryz.prog 93 #[.int .i64 sn] (w.alloc (.cells #[.int .i64 k, strc gt, strc it, .int .i64 ee, .int .i64 sn, .int .i64 n, .int .i64 v, .slice A m c] 24)) fun e w' => e = .returned (strc (countT sn)) ∧ Gr (w.alloc (.cells #[.int .i64 k, strc gt, strc it, .int .i64 ee, .int .i64 sn, .int .i64 n, .int .i64 v, .slice A m c] 24)) w') := count_any sn _ h0 h1 (hT.mono (Gr.alloc w _))
  go_enter Tryz.func71, Tryz.ntmps71
  go_wp2_with fail
  refine HC.out.mono ?_
  rintro e w2 ⟨rfl, g2⟩
  have G2 := Lib.hid g2; clear g2
  go_wp2_with fail
  go_ret
  exact ⟨rfl, (G0.out).trans G2.out⟩
theorem field_n (k : Int) (gt it : List UInt8) (ee sn n v : Int) (A : Option Addr) (m c : Nat) (w : World) (h0 : -9223372036854775808 ≤ n) (h1 : n ≤ 9223372036854775807) (hT : Pow10 w) :
    Calls Tryz.prog 71 #[.agg #[.int .i64 k, strc gt, strc it, .int .i64 ee, .int .i64 sn, .int .i64 n, .int .i64 v, .slice A m c], .int .i32 110] w fun e w' => e = .returned (strc (countT n)) ∧ Gr w w' := by
  have G0 : Hid (Gr w (w.alloc (.cells #[.int .i64 k, strc gt, strc it, .int .i64 ee, .int .i64 sn, .int .i64 n, .int .i64 v, .slice A m c] 24))) := Gr.alloc w _
  have HC : Hid (Calls Tryz.prog 93 #[.int .i64 n] (w.alloc (.cells #[.int .i64 k, strc gt, strc it, .int .i64 ee, .int .i64 sn, .int .i64 n, .int .i64 v, .slice A m c] 24)) fun e w' => e = .returned (strc (countT n)) ∧ Gr (w.alloc (.cells #[.int .i64 k, strc gt, strc it, .int .i64 ee, .int .i64 sn, .int .i64 n, .int .i64 v, .slice A m c] 24)) w') := count_any n _ h0 h1 (hT.mono (Gr.alloc w _))
  go_enter Tryz.func71, Tryz.ntmps71
  go_wp2_with fail
  refine HC.out.mono ?_
  rintro e w2 ⟨rfl, g2⟩
  have G2 := Lib.hid g2; clear g2
  go_wp2_with fail
  go_ret
  exact ⟨rfl, (G0.out).trans G2.out⟩
set_option maxRecDepth 100000 in
theorem field_v (k : Int) (gt it : List UInt8) (ee sn n v : Int) (A : Option Addr) (m c : Nat) (w : World) :
    Calls Tryz.prog 71 #[.agg #[.int .i64 k, strc gt, strc it, .int .i64 ee, .int .i64 sn, .int .i64 n, .int .i64 v, .slice A m c], .int .i32 118] w fun e w' => e = .returned (strc (sayT v)) ∧ Gr w w' := by
  have G0 : Hid (Gr w (w.alloc (.cells #[.int .i64 k, strc gt, strc it, .int .i64 ee, .int .i64 sn, .int .i64 n, .int .i64 v, .slice A m c] 24))) := Gr.alloc w _
  have HSY := Lib.hid (sayings_any (w.alloc (.cells #[.int .i64 k, strc gt, strc it, .int .i64 ee, .int .i64 sn, .int .i64 n, .int .i64 v, .slice A m c] 24)))
  have HW0 : Hid (∀ w2, Gr (w.alloc (.cells #[.int .i64 k, strc gt, strc it, .int .i64 ee, .int .i64 sn, .int .i64 n, .int .i64 v, .slice A m c] 24)) w2 → w2.cell? ⟨w.heap.size, 6, none⟩ = some (.int .i64 v)) := fun w2 g => by
    have hb := Blk.new w 24 #[.int .i64 k, strc gt, strc it, .int .i64 ee, .int .i64 sn, .int .i64 n, .int .i64 v, .slice A m c]
    rw [g.cell (p := ⟨w.heap.size, 6, none⟩) hb.lt, hb.cell]
    rfl
  unfold sayCells at *
  by_cases h1 : 0 < v
  · by_cases h4 : v < 4
    · rcases show v = 1 ∨ v = 2 ∨ v = 3 by omega with rfl | rfl | rfl
      all_goals
        clear h1 h4
        go_enter Tryz.func71, Tryz.ntmps71
        go_wp2_with fail
        refine HSY.out.mono ?_
        rintro e w2 ⟨rfl, g2⟩
        have c6 := HW0.out (w2.alloc (.cells #[.string ⟨#[]⟩, .string ⟨#[97, 99, 99, 101, 112, 116, 101, 100]⟩, .string ⟨#[111, 116, 104, 101, 114]⟩, .string ⟨#[110, 111, 116, 104, 105, 110, 103]⟩] 132)) (g2.trans (Gr.alloc _ _))
        have G2 := Lib.hid g2; clear g2
        go_wp2_with fail
        go_ret
        exact ⟨rfl, ((G0.out).trans G2.out).trans (Gr.alloc _ _)⟩
    · have t1 : decide (0 < v) = true := decide_eq_true h1
      have t4 : decide (v < 4) = false := decide_eq_false h4
      have HF : Hid (sayT v = []) := by show _ = _; unfold sayT; rw [if_neg (by omega), if_neg (by omega), if_neg (by omega)]
      go_enter Tryz.func71, Tryz.ntmps71
      go_wp2_with fail
      refine HSY.out.mono ?_
      rintro e w2 ⟨rfl, g2⟩
      have c6 := HW0.out (w2.alloc (.cells #[.string ⟨#[]⟩, .string ⟨#[97, 99, 99, 101, 112, 116, 101, 100]⟩, .string ⟨#[111, 116, 104, 101, 114]⟩, .string ⟨#[110, 111, 116, 104, 105, 110, 103]⟩] 132)) (g2.trans (Gr.alloc _ _))
      have G2 := Lib.hid g2; clear g2
      go_wp2_with fail
      go_ret
      exact ⟨by rw [HF.out]; rfl, ((G0.out).trans G2.out).trans (Gr.alloc _ _)⟩
  · have t1 : decide (0 < v) = false := decide_eq_false h1
    have HF : Hid (sayT v = []) := by show _ = _; unfold sayT; rw [if_neg (by omega), if_neg (by omega), if_neg (by omega)]
    go_enter Tryz.func71, Tryz.ntmps71
    go_wp2_with fail
    refine HSY.out.mono ?_
    rintro e w2 ⟨rfl, g2⟩
    have c6 := HW0.out (w2.alloc (.cells #[.string ⟨#[]⟩, .string ⟨#[97, 99, 99, 101, 112, 116, 101, 100]⟩, .string ⟨#[111, 116, 104, 101, 114]⟩, .string ⟨#[110, 111, 116, 104, 105, 110, 103]⟩] 132)) (g2.trans (Gr.alloc _ _))
    have G2 := Lib.hid g2; clear g2
    go_wp2_with fail
    go_ret
    exact ⟨by rw [HF.out]; rfl, ((G0.out).trans G2.out).trans (Gr.alloc _ _)⟩
set_option maxRecDepth 100000 in
theorem field_x (k : Int) (gt it : List UInt8) (ee sn n v : Int) (A : Option Addr) (m c : Nat) (w : World) (x : List UInt8) (hx : Bs w A m c x) (hl : x.length ≤ 100000) :
    Calls Tryz.prog 71 #[.agg #[.int .i64 k, strc gt, strc it, .int .i64 ee, .int .i64 sn, .int .i64 n, .int .i64 v, .slice A m c], .int .i32 120] w fun e w' => e = .returned (strc (if x.length = 32 then hexP x else [])) ∧ Gr w w' := by
  have G0 : Hid (Gr w (w.alloc (.cells #[.int .i64 k, strc gt, strc it, .int .i64 ee, .int .i64 sn, .int .i64 n, .int .i64 v, .slice A m c] 24))) := Gr.alloc w _
  have hml := hx.len
  have HHX := Lib.hid (hexPrint_any A m c x _ (hx.mono G0.out) (by omega))
  clear hx
  by_cases h32 : m = 32
  · have t1 : ((m : Int) == 32) = true := beq_iff_eq.2 (by omega)
    have HF : Hid ((if x.length = 32 then hexP x else []) = hexP x) := if_pos (by omega)
    rw [HF.out]
    clear hml h32
    go_enter Tryz.func71, Tryz.ntmps71
    go_wp2_with fail
    refine HHX.out.mono ?_
    rintro e w2 ⟨rfl, g2⟩
    have G2 := Lib.hid g2; clear g2
    go_wp2_with fail
    go_ret
    exact ⟨rfl, (G0.out).trans G2.out⟩
  · have t1 : ((m : Int) == 32) = false := beq_eq_false_iff_ne.2 (by omega)
    have HF : Hid ((if x.length = 32 then hexP x else []) = []) := if_neg (by omega)
    rw [HF.out]
    clear hml h32
    go_enter Tryz.func71, Tryz.ntmps71
    go_wp2_with fail
    go_ret
    exact ⟨rfl, G0.out⟩
theorem field_any (o : OpD) (A : Option Addr) (m c s : Nat) (w : World) (ho : OpOk o) (hx : Bs w A m c o.x) (hT : Pow10 w) (hs : s = 103 ∨ s = 105 ∨ s = 101 ∨ s = 115 ∨ s = 110 ∨ s = 118 ∨ s = 120) :
    Calls Tryz.prog 71 #[opV o A m c, .int .i32 (s : Int)] w fun e w' => e = .returned (strc (fieldL o s)) ∧ Gr w w' := by
  rcases hs with rfl | rfl | rfl | rfl | rfl | rfl | rfl
  · exact field_g _ _ _ _ _ _ _ _ _ _ _ ho.g
  · exact field_i _ _ _ _ _ _ _ _ _ _ _ ho.i
  · exact field_e _ _ _ _ _ _ _ _ _ _ _ ho.e.1 ho.e.2 hT
  · exact field_s _ _ _ _ _ _ _ _ _ _ _ ho.s.1 ho.s.2 hT
  · exact field_n _ _ _ _ _ _ _ _ _ _ _ ho.n.1 ho.n.2 hT
  · exact field_v _ _ _ _ _ _ _ _ _ _ _
  · exact field_x _ _ _ _ _ _ _ _ _ _ _ _ hx ho.x
end Go.Proofs.YtadenlhnfkccaaaGreatDoor

/- Operations as lines: words read into an operation. No condition. -/
namespace Go.Proofs.YtadenlhnfkccaaaGreatDoor
open Go.RowKit
set_option linter.unusedVariables false
set_option linter.unusedSimpArgs false
set_option maxRecDepth 100000 in
set_option maxHeartbeats 1000000 in
theorem readG_raw (u0 u1 u2 u3 u4 u5 u6 u7 : Value) (R : Nat) (s f : ByteArray) (pn pf : Int) (b : Bool) (w : World) (hR : Blk w R 114 [u0, u1, u2, u3, u4, u5, u6, u7])
    (HPA : Hid (Calls Tryz.prog 57 #[.string s, .int .i64 1073741824] w fun e w' => e = .returned (.tuple #[.int .i64 pn, .int .i64 pf]) ∧ Gr w w'))
    (HF : Hid (∀ wr, Tch (fun q => q = R) w wr → Calls Tryz.prog 71 #[.agg #[u0, .string s, u2, u3, u4, u5, u6, u7], .int .i32 103] wr fun e w' => e = .returned (.string f) ∧ Gr wr w'))
    (hb : b = (!(s.toList == []) && f.toList == s.toList)) :
    Calls Tryz.prog 55 #[.pointer (some ⟨R, 0, none⟩), .int .i32 103, .string s] w fun e w' => e = .returned (.bool b) ∧ Blk w' R 114 [u0, .string s, u2, u3, u4, u5, u6, u7] ∧ Tch (fun q => q = R) w w' := by
  have HR := Lib.hid hR
  have HB := Lib.hid hb; clear hR hb
  obtain ⟨pb, hpb⟩ : ∃ pb, pb = (pf == 0) := ⟨_, rfl⟩
  go_enter Tryz.func55, Tryz.ntmps55
  go_wp2_with fail
  refine HPA.out.mono ?_
  rintro e w1 ⟨rfl, g1⟩
  have B1 := Lib.hid (HR.out.mono g1)
  have c1 : w1.cell? ⟨R, 1, none⟩ = some u1 := by rw [B1.out.cell]; rfl
  have f1 := B1.out.free 1
  have G1 := Lib.hid g1; clear g1
  have B2 := Lib.hid (B1.out.set 1 (.string s))
  have HC : Hid (∀ j v, ([u0, .string s, u2, u3, u4, u5, u6, u7] : List Value)[j]? = some v → (w1.setCell ⟨R, 1, none⟩ (.string s)).cell? ⟨R, j, none⟩ = some v) := fun j v h => (B2.out.cell j).trans h
  have d0 := HC.out 0 _ rfl
  have d1 := HC.out 1 _ rfl
  have d2 := HC.out 2 _ rfl
  have d3 := HC.out 3 _ rfl
  have d4 := HC.out 4 _ rfl
  have d5 := HC.out 5 _ rfl
  have d6 := HC.out 6 _ rfl
  have d7 := HC.out 7 _ rfl
  have TC : Hid (Tch (fun q => q = R) w (w1.setCell ⟨R, 1, none⟩ (.string s))) := (Tch.gr G1.out).trans (Tch.set ⟨R, 1, none⟩ (.string s) rfl)
  have HF2 := Lib.hid (HF.out _ TC.out)
  cases he : (s.toList == []) with
  | true =>
    have HX : Hid (b = false) := by show _ = _; rw [HB.out, he]; rfl
    go_wp2_with fail
    go_ret
    exact ⟨by rw [HX.out]; rfl, B2.out, TC.out⟩
  | false =>
    have HX : Hid (b = (f.toList == s.toList)) := by show _ = _; rw [HB.out, he]; rfl
    go_wp2_with fail
    refine HF2.out.mono ?_
    rintro e wf ⟨rfl, gf⟩
    have GF := Lib.hid gf; clear gf
    go_wp2_with fail
    go_ret
    exact ⟨by rw [HX.out]; rfl, B2.out.mono GF.out, TC.out.trans (Tch.gr GF.out)⟩
set_option maxRecDepth 100000 in
set_option maxHeartbeats 1000000 in
theorem readI_raw (u0 u1 u2 u3 u4 u5 u6 u7 : Value) (R : Nat) (s f : ByteArray) (pn pf : Int) (b : Bool) (w : World) (hR : Blk w R 114 [u0, u1, u2, u3, u4, u5, u6, u7])
    (HPA : Hid (Calls Tryz.prog 57 #[.string s, .int .i64 1073741824] w fun e w' => e = .returned (.tuple #[.int .i64 pn, .int .i64 pf]) ∧ Gr w w'))
    (HF : Hid (∀ wr, Tch (fun q => q = R) w wr → Calls Tryz.prog 71 #[.agg #[u0, u1, .string s, u3, u4, u5, u6, u7], .int .i32 105] wr fun e w' => e = .returned (.string f) ∧ Gr wr w'))
    (hb : b = (!(s.toList == []) && f.toList == s.toList)) :
    Calls Tryz.prog 55 #[.pointer (some ⟨R, 0, none⟩), .int .i32 105, .string s] w fun e w' => e = .returned (.bool b) ∧ Blk w' R 114 [u0, u1, .string s, u3, u4, u5, u6, u7] ∧ Tch (fun q => q = R) w w' := by
  have HR := Lib.hid hR
  have HB := Lib.hid hb; clear hR hb
  obtain ⟨pb, hpb⟩ : ∃ pb, pb = (pf == 0) := ⟨_, rfl⟩
  go_enter Tryz.func55, Tryz.ntmps55
  go_wp2_with fail
  refine HPA.out.mono ?_
  rintro e w1 ⟨rfl, g1⟩
  have B1 := Lib.hid (HR.out.mono g1)
  have c1 : w1.cell? ⟨R, 2, none⟩ = some u2 := by rw [B1.out.cell]; rfl
  have f1 := B1.out.free 2
  have G1 := Lib.hid g1; clear g1
  have B2 := Lib.hid (B1.out.set 2 (.string s))
  have HC : Hid (∀ j v, ([u0, u1, .string s, u3, u4, u5, u6, u7] : List Value)[j]? = some v → (w1.setCell ⟨R, 2, none⟩ (.string s)).cell? ⟨R, j, none⟩ = some v) := fun j v h => (B2.out.cell j).trans h
  have d0 := HC.out 0 _ rfl
  have d1 := HC.out 1 _ rfl
  have d2 := HC.out 2 _ rfl
  have d3 := HC.out 3 _ rfl
  have d4 := HC.out 4 _ rfl
  have d5 := HC.out 5 _ rfl
  have d6 := HC.out 6 _ rfl
  have d7 := HC.out 7 _ rfl
  have TC : Hid (Tch (fun q => q = R) w (w1.setCell ⟨R, 2, none⟩ (.string s))) := (Tch.gr G1.out).trans (Tch.set ⟨R, 2, none⟩ (.string s) rfl)
  have HF2 := Lib.hid (HF.out _ TC.out)
  cases he : (s.toList == []) with
  | true =>
    have HX : Hid (b = false) := by show _ = _; rw [HB.out, he]; rfl
    go_wp2_with fail
    go_ret
    exact ⟨by rw [HX.out]; rfl, B2.out, TC.out⟩
  | false =>
    have HX : Hid (b = (f.toList == s.toList)) := by show _ = _; rw [HB.out, he]; rfl
    go_wp2_with fail
    refine HF2.out.mono ?_
    rintro e wf ⟨rfl, gf⟩
    have GF := Lib.hid gf; clear gf
    go_wp2_with fail
    go_ret
    exact ⟨by rw [HX.out]; rfl, B2.out.mono GF.out, TC.out.trans (Tch.gr GF.out)⟩
set_option maxRecDepth 100000 in
set_option maxHeartbeats 1000000 in
theorem readE_raw (u0 u1 u2 u3 u4 u5 u6 u7 : Value) (R : Nat) (s : ByteArray) (pn pf : Int) (w : World) (hR : Blk w R 114 [u0, u1, u2, u3, u4, u5, u6, u7])
    (HPA : Hid (Calls Tryz.prog 57 #[.string s, .int .i64 1073741824] w fun e w' => e = .returned (.tuple #[.int .i64 pn, .int .i64 pf]) ∧ Gr w w')) :
    Calls Tryz.prog 55 #[.pointer (some ⟨R, 0, none⟩), .int .i32 101, .string s] w fun e w' => e = .returned (.bool (pf == 0)) ∧ Blk w' R 114 [u0, u1, u2, .int .i64 pn, u4, u5, u6, u7] ∧ Tch (fun q => q = R) w w' := by
  have HR := Lib.hid hR; clear hR
  go_enter Tryz.func55, Tryz.ntmps55
  go_wp2_with fail
  refine HPA.out.mono ?_
  rintro e w1 ⟨rfl, g1⟩
  have B1 := Lib.hid (HR.out.mono g1)
  have c1 : w1.cell? ⟨R, 3, none⟩ = some u3 := by rw [B1.out.cell]; rfl
  have f1 := B1.out.free 3
  have G1 := Lib.hid g1; clear g1
  have B2 := Lib.hid (B1.out.set 3 (.int .i64 pn))
  have TC : Hid (Tch (fun q => q = R) w (w1.setCell ⟨R, 3, none⟩ (.int .i64 pn))) := (Tch.gr G1.out).trans (Tch.set ⟨R, 3, none⟩ (.int .i64 pn) rfl)
  go_wp2_with fail
  go_ret
  exact ⟨rfl, B2.out, TC.out⟩
set_option maxRecDepth 100000 in
set_option maxHeartbeats 1000000 in
theorem readS_raw (u0 u1 u2 u3 u4 u5 u6 u7 : Value) (R : Nat) (s : ByteArray) (pn pf : Int) (w : World) (hR : Blk w R 114 [u0, u1, u2, u3, u4, u5, u6, u7])
    (HPA : Hid (Calls Tryz.prog 57 #[.string s, .int .i64 1073741824] w fun e w' => e = .returned (.tuple #[.int .i64 pn, .int .i64 pf]) ∧ Gr w w')) :
    Calls Tryz.prog 55 #[.pointer (some ⟨R, 0, none⟩), .int .i32 115, .string s] w fun e w' => e = .returned (.bool (pf == 0)) ∧ Blk w' R 114 [u0, u1, u2, u3, .int .i64 pn, u5, u6, u7] ∧ Tch (fun q => q = R) w w' := by
  have HR := Lib.hid hR; clear hR
  go_enter Tryz.func55, Tryz.ntmps55
  go_wp2_with fail
  refine HPA.out.mono ?_
  rintro e w1 ⟨rfl, g1⟩
  have B1 := Lib.hid (HR.out.mono g1)
  have c1 : w1.cell? ⟨R, 4, none⟩ = some u4 := by rw [B1.out.cell]; rfl
  have f1 := B1.out.free 4
  have G1 := Lib.hid g1; clear g1
  have B2 := Lib.hid (B1.out.set 4 (.int .i64 pn))
  have TC : Hid (Tch (fun q => q = R) w (w1.setCell ⟨R, 4, none⟩ (.int .i64 pn))) := (Tch.gr G1.out).trans (Tch.set ⟨R, 4, none⟩ (.int .i64 pn) rfl)
  go_wp2_with fail
  go_ret
  exact ⟨rfl, B2.out, TC.out⟩
set_option maxRecDepth 100000 in
set_option maxHeartbeats 1000000 in
theorem readN_raw (u0 u1 u2 u3 u4 u5 u6 u7 : Value) (R : Nat) (s : ByteArray) (pn pf : Int) (w : World) (hR : Blk w R 114 [u0, u1, u2, u3, u4, u5, u6, u7])
    (HPA : Hid (Calls Tryz.prog 57 #[.string s, .int .i64 1073741824] w fun e w' => e = .returned (.tuple #[.int .i64 pn, .int .i64 pf]) ∧ Gr w w')) :
    Calls Tryz.prog 55 #[.pointer (some ⟨R, 0, none⟩), .int .i32 110, .string s] w fun e w' => e = .returned (.bool (pf == 0)) ∧ Blk w' R 114 [u0, u1, u2, u3, u4, .int .i64 pn, u6, u7] ∧ Tch (fun q => q = R) w w' := by
  have HR := Lib.hid hR; clear hR
  go_enter Tryz.func55, Tryz.ntmps55
  go_wp2_with fail
  refine HPA.out.mono ?_
  rintro e w1 ⟨rfl, g1⟩
  have B1 := Lib.hid (HR.out.mono g1)
  have c1 : w1.cell? ⟨R, 5, none⟩ = some u5 := by rw [B1.out.cell]; rfl
  have f1 := B1.out.free 5
  have G1 := Lib.hid g1; clear g1
  have B2 := Lib.hid (B1.out.set 5 (.int .i64 pn))
  have TC : Hid (Tch (fun q => q = R) w (w1.setCell ⟨R, 5, none⟩ (.int .i64 pn))) := (Tch.gr G1.out).trans (Tch.set ⟨R, 5, none⟩ (.int .i64 pn) rfl)
  go_wp2_with fail
  go_ret
  exact ⟨rfl, B2.out, TC.out⟩
set_option maxRecDepth 100000 in
set_option maxHeartbeats 1000000 in
theorem readX_raw (u0 u1 u2 u3 u4 u5 u6 u7 : Value) (R : Nat) (s f : ByteArray) (pn pf : Int) (b : Bool) (r : List UInt8 × Nat × Nat) (w : World) (hR : Blk w R 114 [u0, u1, u2, u3, u4, u5, u6, u7])
    (HPA : Hid (Calls Tryz.prog 57 #[.string s, .int .i64 1073741824] w fun e w' => e = .returned (.tuple #[.int .i64 pn, .int .i64 pf]) ∧ Gr w w'))
    (HH : Hid (∀ wr, Calls Tryz.prog 60 #[.string s] wr (RetHex wr r)))
    (HF : Hid (∀ A m c wr, Bs wr A m c r.1 → Calls Tryz.prog 71 #[.agg #[u0, u1, u2, u3, u4, u5, u6, .slice A m c], .int .i32 120] wr fun e w' => e = .returned (.string f) ∧ Gr wr w'))
    (hb : b = (!(s.toList == []) && f.toList == s.toList)) :
    Calls Tryz.prog 55 #[.pointer (some ⟨R, 0, none⟩), .int .i32 120, .string s] w fun e w' => e = .returned (.bool b) ∧ ∃ A m c, Blk w' R 114 [u0, u1, u2, u3, u4, u5, u6, .slice A m c] ∧ Bs w' A m c r.1 ∧ (∀ b o, A = some ⟨b, o, none⟩ → w.heap.size ≤ b) ∧ Tch (fun q => q = R) w w' := by
  have HR := Lib.hid hR
  have HB := Lib.hid hb; clear hR hb
  go_enter Tryz.func55, Tryz.ntmps55
  go_wp2_with fail
  refine HPA.out.mono ?_
  rintro e w1 ⟨rfl, g1⟩
  have G1 := Lib.hid g1; clear g1
  go_wp2_with fail
  refine (HH.out _).mono ?_
  rintro e w2 ⟨v2, rfl, ow⟩
  have hlt : R < w1.heap.size := Nat.lt_of_lt_of_le HR.out.lt G1.out.size
  have hfr : Hid (∀ b o (A : Option Addr) m c, v2 = .slice A m c → A = some ⟨b, o, none⟩ → w1.heap.size ≤ b) := fun b o A m c e1 e2 => (ow.1.lt b (by rw [e1, e2]; rfl)).1
  obtain ⟨A, c, rfl, sl⟩ := ow.slice
  have HFR : Hid (∀ b o, A = some ⟨b, o, none⟩ → w1.heap.size ≤ b) := fun b o e => hfr.out b o A _ c rfl e
  have B1 := Lib.hid ((HR.out.mono G1.out).mono ow.below)
  have c1 : w2.cell? ⟨R, 7, none⟩ = some u7 := by rw [B1.out.cell]; rfl
  have f1 := B1.out.free 7
  have G2 := Lib.hid (G1.out.trans ow.below)
  have SL := Lib.hid sl
  have hsz := ow.below.size
  clear ow sl hfr
  generalize hm : r.1.length = m at *
  have TS : Hid (Tch (fun q => q = R) w2 (w2.setCell ⟨R, 7, none⟩ (.slice A m c))) := Tch.set ⟨R, 7, none⟩ (.slice A m c) rfl
  have SL2 : Hid (Bs (w2.setCell ⟨R, 7, none⟩ (.slice A m c)) A m c r.1) := Sl.tch SL.out (by decide) TS.out (fun _ b o e => by have := HFR.out b o e; show ¬ b = R; omega)
  have B2 := Lib.hid (B1.out.set 7 (.slice A m c))
  have HC : Hid (∀ j v, ([u0, u1, u2, u3, u4, u5, u6, .slice A m c] : List Value)[j]? = some v → (w2.setCell ⟨R, 7, none⟩ (.slice A m c)).cell? ⟨R, j, none⟩ = some v) := fun j v h => (B2.out.cell j).trans h
  have d0 := HC.out 0 _ rfl
  have d1 := HC.out 1 _ rfl
  have d2 := HC.out 2 _ rfl
  have d3 := HC.out 3 _ rfl
  have d4 := HC.out 4 _ rfl
  have d5 := HC.out 5 _ rfl
  have d6 := HC.out 6 _ rfl
  have d7 := HC.out 7 _ rfl
  have TC : Hid (Tch (fun q => q = R) w (w2.setCell ⟨R, 7, none⟩ (.slice A m c))) := (Tch.gr G2.out).trans TS.out
  have HF2 := Lib.hid (HF.out A m c _ SL2.out)
  have HFW : Hid (∀ b o, A = some ⟨b, o, none⟩ → w.heap.size ≤ b) := fun b o e => Nat.le_trans G1.out.size (HFR.out b o e)
  clear hm hsz hlt
  cases he : (s.toList == []) with
  | true =>
    have HX : Hid (b = false) := by show _ = _; rw [HB.out, he]; rfl
    go_wp2_with fail
    go_ret
    exact ⟨by rw [HX.out]; rfl, A, m, c, B2.out, SL2.out, HFW.out, TC.out⟩
  | false =>
    have HX : Hid (b = (f.toList == s.toList)) := by show _ = _; rw [HB.out, he]; rfl
    go_wp2_with fail
    refine HF2.out.mono ?_
    rintro e wf ⟨rfl, gf⟩
    have GF := Lib.hid gf; clear gf
    go_wp2_with fail
    go_ret
    exact ⟨by rw [HX.out]; rfl, A, m, c, B2.out.mono GF.out, SL2.out.mono GF.out, HFW.out, TC.out.trans (Tch.gr GF.out)⟩
theorem say_at (W : World) : ∀ j, j < 4 → ∀ v, (#[.string ⟨#[]⟩, .string ⟨#[97, 99, 99, 101, 112, 116, 101, 100]⟩, .string ⟨#[111, 116, 104, 101, 114]⟩, .string ⟨#[110, 111, 116, 104, 105, 110, 103]⟩] : Array Value).toList[j]? = some v → (W.alloc (.cells #[.string ⟨#[]⟩, .string ⟨#[97, 99, 99, 101, 112, 116, 101, 100]⟩, .string ⟨#[111, 116, 104, 101, 114]⟩, .string ⟨#[110, 111, 116, 104, 105, 110, 103]⟩] 132)).cell? ⟨W.heap.size, 0 + j, none⟩ = some v := fun j _ v h => by
  rw [Nat.zero_add, (Blk.new W 132 #[.string ⟨#[]⟩, .string ⟨#[97, 99, 99, 101, 112, 116, 101, 100]⟩, .string ⟨#[111, 116, 104, 101, 114]⟩, .string ⟨#[110, 111, 116, 104, 105, 110, 103]⟩]).cell]
  exact h
def sayZs : List ByteArray := [⟨#[]⟩, ⟨#[97, 99, 99, 101, 112, 116, 101, 100]⟩, ⟨#[111, 116, 104, 101, 114]⟩, ⟨#[110, 111, 116, 104, 105, 110, 103]⟩]
theorem sayIx (W : World) (s : ByteArray) : Calls Tryz.prog 78 #[.slice (some ⟨W.heap.size, 0, none⟩) 4 4, .string s] (W.alloc (.cells #[.string ⟨#[]⟩, .string ⟨#[97, 99, 99, 101, 112, 116, 101, 100]⟩, .string ⟨#[111, 116, 104, 101, 114]⟩, .string ⟨#[110, 111, 116, 104, 105, 110, 103]⟩] 132)) fun e w' => e = .returned (.int .i64 (Lib.idxOfS sayZs s)) ∧ w' = (W.alloc (.cells #[.string ⟨#[]⟩, .string ⟨#[97, 99, 99, 101, 112, 116, 101, 100]⟩, .string ⟨#[111, 116, 104, 101, 114]⟩, .string ⟨#[110, 111, 116, 104, 105, 110, 103]⟩] 132)) :=
  Tryz.slices_Index_string W.heap.size 0 4 4 sayZs s _ (by decide) (by decide) (fun j hj => by
    have hj : j < 4 := hj
    refine say_at W j hj _ ?_
    rcases show j = 0 ∨ j = 1 ∨ j = 2 ∨ j = 3 by omega with rfl | rfl | rfl | rfl <;> rfl)
set_option maxRecDepth 100000 in
set_option maxHeartbeats 1000000 in
theorem readV_raw (u0 u1 u2 u3 u4 u5 u6 u7 : Value) (R : Nat) (s f : ByteArray) (pn pf q : Int) (b : Bool) (w : World) (hR : Blk w R 114 [u0, u1, u2, u3, u4, u5, u6, u7])
    (HPA : Hid (Calls Tryz.prog 57 #[.string s, .int .i64 1073741824] w fun e w' => e = .returned (.tuple #[.int .i64 pn, .int .i64 pf]) ∧ Gr w w'))
    (HF : Hid (∀ wr, Tch (fun q => q = R) w wr → Calls Tryz.prog 71 #[.agg #[u0, u1, u2, u3, u4, u5, .int .i64 q, u7], .int .i32 118] wr fun e w' => e = .returned (.string f) ∧ Gr wr w'))
    (hq : q = max (Lib.idxOfS sayZs s) 0)
    (hb : b = (!(s.toList == []) && f.toList == s.toList)) :
    Calls Tryz.prog 55 #[.pointer (some ⟨R, 0, none⟩), .int .i32 118, .string s] w fun e w' => e = .returned (.bool b) ∧ Blk w' R 114 [u0, u1, u2, u3, u4, u5, .int .i64 q, u7] ∧ Tch (fun q => q = R) w w' := by
  have HR := Lib.hid hR
  have HB := Lib.hid hb; clear hR hb
  have HIX : Hid (∀ W : World, Calls Tryz.prog 78 #[.slice (some ⟨W.heap.size, 0, none⟩) 4 4, .string s] (W.alloc (.cells #[.string ⟨#[]⟩, .string ⟨#[97, 99, 99, 101, 112, 116, 101, 100]⟩, .string ⟨#[111, 116, 104, 101, 114]⟩, .string ⟨#[110, 111, 116, 104, 105, 110, 103]⟩] 132)) fun e w' => e = .returned (.int .i64 (Lib.idxOfS sayZs s)) ∧ w' = (W.alloc (.cells #[.string ⟨#[]⟩, .string ⟨#[97, 99, 99, 101, 112, 116, 101, 100]⟩, .string ⟨#[111, 116, 104, 101, 114]⟩, .string ⟨#[110, 111, 116, 104, 105, 110, 103]⟩] 132))) := fun W => sayIx W s
  have HSY : Hid (∀ W : World, Calls Tryz.prog 77 #[] W fun e w' => e = .returned (.agg #[.string ⟨#[]⟩, .string ⟨#[97, 99, 99, 101, 112, 116, 101, 100]⟩, .string ⟨#[111, 116, 104, 101, 114]⟩, .string ⟨#[110, 111, 116, 104, 105, 110, 103]⟩]) ∧ Gr W w') := fun W => sayings_any W
  obtain ⟨ix, hix⟩ : ∃ ix, ix = Lib.idxOfS sayZs s := ⟨_, rfl⟩
  rw [← hix] at HIX hq
  clear hix
  go_enter Tryz.func55, Tryz.ntmps55
  go_wp2_with fail
  refine HPA.out.mono ?_
  rintro e w1 ⟨rfl, g1⟩
  have G1 := Lib.hid g1; clear g1
  go_wp2_with fail
  refine (HSY.out _).mono ?_
  rintro e w2 ⟨rfl, g2⟩
  have G2 := Lib.hid (G1.out.trans g2); clear g2
  go_wp2_with fail
  refine (HIX.out _).mono ?_
  rintro e w3 ⟨rfl, rfl⟩
  have G3 : Hid (Gr w (w2.alloc (.cells #[.string ⟨#[]⟩, .string ⟨#[97, 99, 99, 101, 112, 116, 101, 100]⟩, .string ⟨#[111, 116, 104, 101, 114]⟩, .string ⟨#[110, 111, 116, 104, 105, 110, 103]⟩] 132))) := G2.out.trans (Gr.alloc _ _)
  obtain ⟨w3, hw3⟩ : ∃ w3, w3 = w2.alloc (.cells #[.string ⟨#[]⟩, .string ⟨#[97, 99, 99, 101, 112, 116, 101, 100]⟩, .string ⟨#[111, 116, 104, 101, 114]⟩, .string ⟨#[110, 111, 116, 104, 105, 110, 103]⟩] 132) := ⟨_, rfl⟩
  rw [← hw3] at G3 ⊢
  have B1 := Lib.hid (HR.out.mono G3.out)
  have c1 : w3.cell? ⟨R, 6, none⟩ = some u6 := by rw [B1.out.cell]; rfl
  have f1 := B1.out.free 6
  clear hw3
  have B2 := Lib.hid (B1.out.set 6 (.int .i64 q))
  have HC : Hid (∀ j v, ([u0, u1, u2, u3, u4, u5, .int .i64 q, u7] : List Value)[j]? = some v → (w3.setCell ⟨R, 6, none⟩ (.int .i64 q)).cell? ⟨R, j, none⟩ = some v) := fun j v h => (B2.out.cell j).trans h
  have d0 := HC.out 0 _ rfl
  have d1 := HC.out 1 _ rfl
  have d2 := HC.out 2 _ rfl
  have d3 := HC.out 3 _ rfl
  have d4 := HC.out 4 _ rfl
  have d5 := HC.out 5 _ rfl
  have d6 := HC.out 6 _ rfl
  have d7 := HC.out 7 _ rfl
  have TC : Hid (Tch (fun q => q = R) w (w3.setCell ⟨R, 6, none⟩ (.int .i64 q))) := (Tch.gr G3.out).trans (Tch.set ⟨R, 6, none⟩ (.int .i64 q) rfl)
  have HF2 := Lib.hid (HF.out _ TC.out)
  subst hq
  cases he : (s.toList == []) with
  | true =>
    have HX : Hid (b = false) := by show _ = _; rw [HB.out, he]; rfl
    go_wp2_with fail
    go_ret
    exact ⟨by rw [HX.out]; rfl, B2.out, TC.out⟩
  | false =>
    have HX : Hid (b = (f.toList == s.toList)) := by show _ = _; rw [HB.out, he]; rfl
    go_wp2_with fail
    refine HF2.out.mono ?_
    rintro e wf ⟨rfl, gf⟩
    have GF := Lib.hid gf; clear gf
    go_wp2_with fail
    go_ret
    exact ⟨by rw [HX.out]; rfl, B2.out.mono GF.out, TC.out.trans (Tch.gr GF.out)⟩
end Go.Proofs.YtadenlhnfkccaaaGreatDoor
