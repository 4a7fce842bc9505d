/- Bytes as text: Print, the program's and the reference's. No condition. -/
import Derived.Test.YtadenlhnfkccaaaDoorObHexW
import Derived.Outline
import Derived.Test.YtadenlhnfkccaaaDoorObNameF
namespace Go.Proofs.YtadenlhnfkccaaaDoor
open Go.RowKit
set_option linter.unusedVariables false
set_option linter.unusedSimpArgs false
/-- 'make([]T, 0, c)', T of one cell: for every world. -/
theorem run_mk0 {P : Program} {t e : TypeId} {z : Value} {bytes : Nat} (ht : ElemT P t e z 1 bytes) (hz1 : z.cells = #[z]) (n : Nat) (h : n * bytes ≤ 281474976710656) (w : World) :
    (Instr.makeSlice t (.int .i64 0) (.int .i64 (n : Int))).run P w = .ok (.slice (some ⟨w.heap.size, 0, none⟩) 0 n) (w.alloc (.cells (reps n z).toArray e)) := by
  obtain ⟨i, hi, hz, hsz, hby⟩ := info_parts ht.info
  have hb := ht.bpos
  have hn : n ≤ n * bytes := Nat.le_mul_of_pos_right _ hb
  have hr := run_make (P := P) w t e i z ht.und hi hz .i64 .i64 0 n (by omega) (by omega) (by rw [hby, Int.mul_comm]; omega) (by omega)
  simp only [Int.toNat_natCast, hsz, Nat.mul_one] at hr
  have hc : madeCells z.cells n = (reps n z).toArray := by
    unfold madeCells reps
    rw [hz1]
    apply Array.ext
    · simp
    · intro j hj1 hj2
      simp only [Array.getElem_map, Array.getElem_range, List.getElem_toArray, List.getElem_replicate]
      have : (#[z] : Array Value).size = 1 := rfl
      rw [this, Nat.mod_one]; rfl
  rw [hc] at hr
  exact hr
theorem own_mk0 (w : World) (n : Nat) (hm : n ≤ maxLen) (e : TypeId) (z : Value) : Own w (w.alloc (.cells (reps n z).toArray e)) e 1 (.slice (some ⟨w.heap.size, 0, none⟩) 0 n) 0 [] :=
  ⟨⟨rfl, .inr ⟨w.heap.size, n, (reps n z).toArray, rfl, Nat.le_refl _, heap_alloc_new w _, Nat.zero_le _, hm, by simp [reps], by simp⟩⟩, Gr.alloc w _⟩
theorem sl_new (w : World) (e : TypeId) (cs : Array Value) (n : Nat) (h : cs.size = n) (hm : n ≤ 1000000) : Sl (w.alloc (.cells cs e)) (some ⟨w.heap.size, 0, none⟩) n n 1 cs.toList := by
  have ow := (Blk.new w e cs).own (w0 := w) (size := 1) (n := n) (Nat.le_refl _) (Gr.alloc w _) (by simp [h]) (by simp only [maxLen]; omega)
  obtain ⟨A, c, e, sl⟩ := ow.slice
  injection e with e1 e2 e3
  subst e1 e3
  exact sl
set_option maxRecDepth 100000 in
set_option maxHeartbeats 1000000 in
theorem hexPrint_any (A : Option Addr) (n c : Nat) (l : List UInt8) (w : World) (h : Bs w A n c l) (hn : n ≤ 100000) : Calls Tryd.prog 41 #[.slice A n c] w fun e w' => e = .returned (.string ⟨(hexP l).toArray⟩) ∧ Gr w w' := by
  have hmax := h.max
  have hcap := h.cap
  have HL := Lib.hid h.len
  have HH := Lib.hid h; clear h
  have hmk : ∀ W : World, (Instr.makeSlice 22 (.int .i64 0) (.int .i64 (2 * (n : Int)))).run Tryd.prog W = .ok (.slice (some ⟨W.heap.size, 0, none⟩) 0 (2 * n)) (W.alloc (.cells (reps (2 * n) (.int .u8 0)).toArray 5)) := fun W => run_mk0 tBytes rfl (2 * n) (by omega) W
  have HO := Lib.hid (own_mk0 w (2 * n) (by simp only [maxLen]; omega) 5 (.int .u8 0))
  go_enter Tryd.func41, Tryd.ntmps41
  go_wp2
  go_loopw [3, 12] (fun v i wr => ∃ k : Nat, k ≤ n ∧ i = .int .i64 k ∧ Own w wr 5 1 v (2 * k) ((hexP (l.take k)).map u8c)) (fun _ i _ => n - (intOf i).toNat)
  case atStart => exact ⟨0, by omega, rfl, HO.out⟩
  case round =>
    obtain ⟨k, hk, rfl, ow⟩ := hrel
    have OW := Lib.hid ow; clear ow
    by_cases hlt : k < n
    · obtain ⟨b, o, rfl, hc⟩ := Bs.addr (l := l) (HH.out.mono OW.out.2) (by omega)
      have c1 := hc k hlt
      have hkl : k < l.length := by rw [HL.out]; exact hlt
      have hg : l.getD k 0 = l[k] := by simp [List.getD_eq_getElem?_getD, List.getElem?_eq_getElem hkl]
      have HS : Hid (hexP (l.take (k + 1)) = hexP (l.take k) ++ [hexD (l[k].toNat / 16), hexD (l[k].toNat % 16)]) := by
        show _ = _
        rw [List.take_succ_eq_append_getElem hkl, hexP_snoc]
      unfold bAt at c1
      rw [hg] at c1
      clear hc hg
      have hx := l[k].toNat_lt
      generalize l[k].toNat = x at *
      have HD1 : Hid (∀ wr, Calls Tryd.prog 70 #[.int .u8 ((x : Int) / 16)] wr fun e w' => e = .returned (u8c (hexD (x / 16))) ∧ w' = wr) := fun wr => digit_any (x / 16) (by omega) wr
      have HD2 : Hid (∀ wr, Calls Tryd.prog 70 #[.int .u8 ((x : Int) % 16)] wr fun e w' => e = .returned (u8c (hexD (x % 16))) ∧ w' = wr) := fun wr => digit_any (x % 16) (by omega) wr
      obtain ⟨y1, hy1⟩ : ∃ y : Int, u8c (hexD (x / 16)) = .int .u8 y := ⟨_, rfl⟩
      obtain ⟨y2, hy2⟩ : ∃ y : Int, u8c (hexD (x % 16)) = .int .u8 y := ⟨_, rfl⟩
      have HY : Hid ([hexD (x / 16), hexD (x % 16)].map u8c = [.int .u8 y1, .int .u8 y2]) := by show [_, _] = _; rw [hy1, hy2]
      rw [hy1] at HD1
      rw [hy2] at HD2
      clear hy1 hy2
      go_wp2_with fail
      refine (HD1.out _).mono ?_
      rintro e w1 ⟨rfl, rfl⟩
      go_wp2_with fail
      refine (HD2.out _).mono ?_
      rintro e w2 ⟨rfl, rfl⟩
      go_wp2_with (at_builtin; refine wpList_cat rfl (.tmp 16) (.tmp 23) 22 rfl tBytes rfl (OW.out.alloc _) rfl (sl_new _ _ _ 2 rfl (by omega)) (by intro u hu; simp at hu; rcases hu with rfl | rfl <;> rfl) (by omega) ?_; intro v1 wn o1)
      have HT : Hid (Own w wn 5 1 v1 (2 * (k + 1)) ((hexP (l.take (k + 1))).map u8c)) := by
        show Own _ _ _ _ _ _ _
        rw [HS.out, List.map_append, HY.out, Nat.mul_add]
        exact o1
      clear o1
      go_roundw
      case rel => exact ⟨k + 1, by omega, by first | trivial | go_num, HT.out⟩
      case measure =>
        show n - ((k : Int) + 1).toNat < n - (k : Int).toNat
        omega
    · obtain rfl : k = n := by omega
      have htk : l.take k = l := List.take_of_length_le (by rw [HL.out]; omega)
      have OF : Hid (Own w wr 5 1 u3 (2 * k) ((hexP l).map u8c)) := by show Own _ _ _ _ _ _ _; rw [← htk]; exact OW.out
      obtain ⟨A3, c3, rfl, s3⟩ := OF.out.slice
      have HCV := fun w' (h : Bs w' A3 (2 * k) c3 (hexP l)) => run_bytes_string (dst := 9) Tryd.underlying22 Tryd.underlying5 Tryd.underlying9 h
      have hcv := HCV wr s3
      clear HCV s3 htk
      go_wp2
      go_ret
      exact ⟨rfl, OF.out.2⟩
theorem hexDs_cut (k : Nat) (h : k < 16) : (⟨#[48, 49, 50, 51, 52, 53, 54, 55, 56, 57, 97, 98, 99, 100, 101, 102]⟩ : ByteArray).extract k (k + 1) = ⟨#[hexD k]⟩ := by
  have hf : ∀ k : Fin 16, ((⟨#[48, 49, 50, 51, 52, 53, 54, 55, 56, 57, 97, 98, 99, 100, 101, 102]⟩ : ByteArray).extract k.1 (k.1 + 1)).data = #[hexD k.1] := by decide +kernel
  exact ByteArray.ext (hf ⟨k, h⟩)
theorem refHexPrint_any (A : Option Addr) (n c : Nat) (l : List UInt8) (w : World) (h : Bs w A n c l) (hn : n ≤ 100000) : Calls Tryd.prog 62 #[.slice A n c] w fun e w' => e = .returned (.string ⟨(hexP l).toArray⟩) ∧ Gr w w' := by
  have hmax := h.max
  have hcap := h.cap
  have HL := Lib.hid h.len
  have HH := Lib.hid h; clear h
  go_enter Tryd.func62, Tryd.ntmps62
  go_wp2
  go_loopw [3, 4] (fun v i wr => ∃ (k : Nat) (t : ByteArray) (q : Nat), k ≤ n ∧ i = .int .i64 k ∧ v = .string t ∧ t = ⟨(hexP (l.take k)).toArray⟩ ∧ wr = w.drewN q) (fun _ i _ => n - (intOf i).toNat)
  case atStart => exact ⟨0, _, 0, by omega, rfl, rfl, rfl, rfl⟩
  case round =>
    obtain ⟨k, t, q, hk, rfl, rfl, ht, rfl⟩ := hrel
    have HT := Lib.hid ht; clear ht
    by_cases hlt : k < n
    · obtain ⟨b, o, rfl, hc⟩ := Bs.addr (l := l) HH.out (by omega)
      have c1 := hc k hlt
      have hkl : k < l.length := by rw [HL.out]; exact hlt
      have hg : l.getD k 0 = l[k] := by simp [List.getD_eq_getElem?_getD, List.getElem?_eq_getElem hkl]
      have HS : Hid (hexP (l.take (k + 1)) = hexP (l.take k) ++ [hexD (l[k].toNat / 16), hexD (l[k].toNat % 16)]) := by
        show _ = _
        rw [List.take_succ_eq_append_getElem hkl, hexP_snoc]
      unfold bAt at c1
      rw [hg] at c1
      have htz : t.size = 2 * k := by rw [HT.out, size_of', hexP_len, List.length_take]; omega
      clear hc hg
      have hx := l[k].toNat_lt
      generalize l[k].toNat = x at *
      have h1 : IntKind.u8.wrap ((x : Int) / 16 + 1) = (x : Int) / 16 + 1 := wrap_u8 (by omega) (by omega)
      have h2 : IntKind.u8.wrap ((x : Int) % 16 + 1) = (x : Int) % 16 + 1 := wrap_u8 (by omega) (by omega)
      have h0 : IntKind.u8.wrap ((x : Int) / 16) = (x : Int) / 16 := wrap_u8 (by omega) (by omega)
      have h3 : IntKind.u8.wrap ((x : Int) % 16) = (x : Int) % 16 := wrap_u8 (by omega) (by omega)
      have d1 : (0 : Int) ≤ (x : Int) / 16 := by omega
      have d2 : (x : Int) / 16 ≤ (x : Int) / 16 + 1 := by omega
      have d3 : (x : Int) / 16 + 1 ≤ 16 := by omega
      have m1 : (0 : Int) ≤ (x : Int) % 16 := by omega
      have m2 : (x : Int) % 16 ≤ (x : Int) % 16 + 1 := by omega
      have m3 : (x : Int) % 16 + 1 ≤ 16 := by omega
      have l1 : ¬ 9223372036854775807 < t.size + 1 := by omega
      go_wp2
      go_quiet (fail)
      rw [hexDs_cut _ (by omega), hexDs_cut _ (by omega)]
      have HX : Hid (t ++ ⟨#[hexD (x / 16)]⟩ ++ ⟨#[hexD (x % 16)]⟩ = ⟨(hexP (l.take (k + 1))).toArray⟩) := by
        show _ = _
        rw [HS.out, HT.out]
        apply ByteArray.ext
        simp
      clear h0 h1 h2 h3 d1 d2 d3 m1 m2 m3 l1
      go_wp2
      refine ⟨⟨k + 1, _, _, by omega, by first | trivial | go_num, rfl, HX.out, rfl⟩, ?_⟩
      show n - ((k : Int) + 1).toNat < n - (k : Int).toNat
      omega
    · obtain rfl : k = n := by omega
      have htk : l.take k = l := List.take_of_length_le (by rw [HL.out]; omega)
      rw [htk] at HT
      go_wp2
      go_ret
      exact ⟨by rw [HT.out]; rfl, belowN (Gr.refl _) _⟩
end Go.Proofs.YtadenlhnfkccaaaDoor
