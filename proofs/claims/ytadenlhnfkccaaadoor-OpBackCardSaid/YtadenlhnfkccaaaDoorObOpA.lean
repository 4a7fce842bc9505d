/- Operations as lines: counts, parts, what is said, the forms. No condition. -/
import Derived.Test.YtadenlhnfkccaaaDoorObOpL
import Derived.Test.YtadenlhnfkccaaaDoorObNameX
import Derived.Test.YtadenlhnfkccaaaDoorObDigP
import Derived.Test.YtadenlhnfkccaaaDoorObHexQ
import Derived.Laws.Rows
import Derived.Laws.Tables
import Derived.Laws.ResultCell
import Derived.Outline
namespace Go.Proofs.YtadenlhnfkccaaaDoor
open Go.RowKit
set_option linter.unusedVariables false
set_option linter.unusedSimpArgs false
theorem count_any (n : Int) (w : World) (h0 : -9223372036854775808 ≤ n) (h1 : n ≤ 9223372036854775807) (ht : Pow10 w) : Calls Tryd.prog 38 #[.int .i64 n] w fun e w' => e = .returned (strc (countT n)) ∧ Gr w w' := by
  have HP : Hid (Calls Tryd.prog 68 #[.int .i64 n] w fun e w' => e = .returned (strc (printL n)) ∧ Gr w w') := print_any n w h0 h1 ht
  clear ht
  by_cases h : 1073741824 < n
  · have t1 : decide (1073741824 < n) = true := decide_eq_true h
    have HF : Hid (countT n = []) := if_pos h
    go_enter Tryd.func38, Tryd.ntmps38
    go_wp2_with fail
    go_ret
    exact ⟨by rw [HF.out]; rfl, Gr.refl _⟩
  · have t1 : decide (1073741824 < n) = false := decide_eq_false h
    have HF : Hid (countT n = printL n) := if_neg h
    rw [HF.out]
    obtain ⟨x, hx⟩ : ∃ x : ByteArray, strc (printL n) = .string x := ⟨_, rfl⟩
    rw [hx] at HP ⊢
    clear hx
    go_enter Tryd.func38, Tryd.ntmps38
    go_wp2_with fail
    refine HP.out.mono ?_
    rintro e w1 ⟨rfl, g1⟩
    have G1 := Lib.hid g1; clear g1
    go_wp2_with fail
    go_ret
    exact ⟨rfl, G1.out⟩
theorem count_neg {n : Int} (h : n < 0) : countT n = [] := by
  unfold countT printL
  rw [if_neg (by omega), if_pos h]
theorem refCount39_any (n : Int) (w : World) (h0 : -9223372036854775808 ≤ n) (h1 : n ≤ 9223372036854775807) : Calls Tryd.prog 60 #[.int .i64 n] w fun e w' => e = .returned (strc (countT n)) ∧ Gr w w' := by
  have HP : Hid (Calls Tryd.prog 87 #[.int .i64 n] w fun e w' => e = .returned (strc (printL n)) ∧ Gr w w') := refPrint_any n.toNat n w (by omega) h1
  by_cases hn : n < 0
  · have t0 : decide (n < 0) = true := decide_eq_true hn
    have HF : Hid (countT n = []) := count_neg hn
    go_enter Tryd.func60, Tryd.ntmps60
    go_wp2_with fail
    go_ret
    exact ⟨by rw [HF.out]; rfl, Gr.refl _⟩
  have t0 : decide (n < 0) = false := decide_eq_false hn
  by_cases h : 1073741824 < n
  · have t1 : decide (1073741824 < n) = true := decide_eq_true h
    have HF : Hid (countT n = []) := if_pos h
    go_enter Tryd.func60, Tryd.ntmps60
    go_wp2_with fail
    go_ret
    exact ⟨by rw [HF.out]; rfl, Gr.refl _⟩
  · have t1 : decide (1073741824 < n) = false := decide_eq_false h
    have HF : Hid (countT n = printL n) := if_neg h
    rw [HF.out]
    obtain ⟨x, hx⟩ : ∃ x : ByteArray, strc (printL n) = .string x := ⟨_, rfl⟩
    rw [hx] at HP ⊢
    clear hx
    go_enter Tryd.func60, Tryd.ntmps60
    go_wp2_with fail
    refine HP.out.mono ?_
    rintro e w1 ⟨rfl, g1⟩
    have G1 := Lib.hid g1; clear g1
    go_wp2_with fail
    go_ret
    exact ⟨rfl, G1.out⟩
theorem opPart_any (l : List UInt8) (w : World) (hl : l.length ≤ 100000) : Calls Tryd.prog 40 #[strc l] w fun e w' => e = .returned (strc (partT l)) ∧ Gr w w' := by
  have HP : Hid (Calls Tryd.prog 69 #[strc l] w fun e w' => e = .returned (.bool (partL l)) ∧ Gr w w') := part_any l w (by omega)
  obtain ⟨x, hx⟩ : ∃ x : ByteArray, strc l = .string x := ⟨_, rfl⟩
  cases hp : partL l with
  | true =>
    have HF : Hid (partT l = l) := if_pos hp
    rw [HF.out]
    rw [hp] at HP
    rw [hx] at HP ⊢
    clear hx hp
    go_enter Tryd.func40, Tryd.ntmps40
    go_wp2_with fail
    refine HP.out.mono ?_
    rintro e w1 ⟨rfl, g1⟩
    have G1 := Lib.hid g1; clear g1
    go_wp2_with fail
    go_ret
    exact ⟨rfl, G1.out⟩
  | false =>
    have HF : Hid (partT l = []) := if_neg (by rw [hp]; decide)
    rw [HF.out]
    rw [hp] at HP
    rw [hx] at HP ⊢
    clear hx hp
    go_enter Tryd.func40, Tryd.ntmps40
    go_wp2_with fail
    refine HP.out.mono ?_
    rintro e w1 ⟨rfl, g1⟩
    have G1 := Lib.hid g1; clear g1
    go_wp2_with fail
    go_ret
    exact ⟨rfl, G1.out⟩
/-! ### what is said -/
def sayCells : Array Value := #[.string ⟨#[]⟩, .string ⟨#[97, 99, 99, 101, 112, 116, 101, 100]⟩, .string ⟨#[111, 116, 104, 101, 114]⟩, .string ⟨#[110, 111, 116, 104, 105, 110, 103]⟩]
theorem saySize : (Tryd.prog.info? 116).map (·.size) = some 4 := by kernel_rfl
theorem sayings_any (w : World) : Calls Tryd.prog 56 #[] w fun e w' => e = .returned (.agg sayCells) ∧ Gr w w' := by
  go_enter Tryd.func56, Tryd.ntmps56
  go_wp2_with fail
  exact bodyPost_ret (v := .agg sayCells) (results_cell_row Tryd.results56 _ _ w.heap.size 116 sayCells (0, 0) _ rfl (heap_alloc_new w _) Tryd.underlying116 rfl saySize) rfl ⟨rfl, Gr.alloc w _⟩
def formCells : Array Value := #[.string ⟨#[]⟩, .string ⟨#[]⟩, .string ⟨#[99, 114, 101, 97, 116, 101]⟩, .string ⟨#[103, 115, 120]⟩, .string ⟨#[110, 101, 120, 116]⟩, .string ⟨#[103, 101, 115, 110]⟩, .string ⟨#[115, 116, 97, 103, 101]⟩, .string ⟨#[103, 105, 120]⟩, .string ⟨#[118, 101, 114, 100, 105, 99, 116]⟩, .string ⟨#[103, 101, 105, 118]⟩, .string ⟨#[101, 120, 112, 111, 114, 116]⟩, .string ⟨#[103, 101]⟩, .string ⟨#[99, 108, 111, 115, 101]⟩, .string ⟨#[103]⟩, .string ⟨#[107, 101, 121, 112, 117, 116]⟩, .string ⟨#[105, 120]⟩, .string ⟨#[107, 101, 121, 116, 97, 107, 101]⟩, .string ⟨#[105]⟩, .string ⟨#[108, 111, 111, 107]⟩, .string ⟨#[103]⟩]
theorem formSize : (Tryd.prog.info? 63).map (·.size) = some 20 := by kernel_rfl
theorem below_row39 {B : Nat} {w0 w : World} {g : Nat} (h : Below B w0 w) (hg : B ≤ g) (cs : Array Value) : Below B w0 (w.setRow g cs) :=
  ⟨h.os, h.tape, h.output, by simpa [World.setRow] using h.size, fun k hk => by
    have hne : g ≠ k := by omega
    rw [← h.block k hk]
    simp [World.setRow, Array.getElem?_modify, hne]⟩
theorem formOne : formCells.all (·.oneCell') = true := by
  rw [Array.all_eq_true']
  intro v hv
  have : v ∈ formCells.toList := Array.mem_toList_iff.2 hv
  simp only [formCells, List.mem_cons, List.not_mem_nil, or_false] at this
  rcases this with h | h | h | h | h | h | h | h | h | h | h | h | h | h | h | h | h | h | h | h <;> subst h <;> rfl
set_option maxRecDepth 100000 in
theorem forms_any (w : World) : Calls Tryd.prog 24 #[] w fun e w' => e = .returned (.agg formCells) ∧ Gr w w' := by
  have HO := Lib.hid formOne
  have hb : Hid (Below w.heap.size w ((w.alloc (.cells (reps 20 (.string ⟨#[]⟩)).toArray 63)).setRow w.heap.size formCells)) := below_row39 ((Below.refl _ _).alloc (Nat.le_refl _) _) (Nat.le_refl _) _
  have HN : Hid (((w.alloc (.cells (reps 20 (.string ⟨#[]⟩)).toArray 63)).setRow w.heap.size formCells).heap[w.heap.size]? = some (.cells formCells 63 (0, 0))) := setRow_heap _ w.heap.size _ _ _ _ (heap_alloc_new w _)
  go_enter Tryd.func24, Tryd.ntmps24
  go_wp2_with (refine wpList_store_row rfl 63 (.tmp 0) (.tmp 10) rfl w.heap.size formCells rfl rfl 63 (reps 20 (.string ⟨#[]⟩)).toArray (by exact heap_alloc_new w _) formSize rfl HO.out ?_)
  exact bodyPost_ret (v := .agg formCells) (results_cell_row Tryd.results24 _ _ w.heap.size 63 _ (0, 0) _ rfl HN.out Tryd.underlying63 rfl formSize) rfl ⟨rfl, hb.out⟩
theorem refSaid_any (n : Int) (w : World) : Calls Tryd.prog 61 #[.int .i64 n] w fun e w' => e = .returned (strc (sayT n)) ∧ Gr w w' := by
  by_cases h1 : n < 1
  · have t1 : decide (n < 1) = true := decide_eq_true h1
    have HF : Hid (sayT n = []) := by show _ = _; unfold sayT; rw [if_neg (by omega), if_neg (by omega), if_neg (by omega)]
    go_enter Tryd.func61, Tryd.ntmps61
    go_wp2_with fail
    go_ret
    exact ⟨by rw [HF.out]; rfl, Gr.refl _⟩
  have t1 : decide (n < 1) = false := decide_eq_false h1
  by_cases h3 : 3 < n
  · have t3 : decide (3 < n) = true := decide_eq_true h3
    have HF : Hid (sayT n = []) := by show _ = _; unfold sayT; rw [if_neg (by omega), if_neg (by omega), if_neg (by omega)]
    go_enter Tryd.func61, Tryd.ntmps61
    go_wp2_with fail
    go_ret
    exact ⟨by rw [HF.out]; rfl, Gr.refl _⟩
  clear t1
  rcases show n = 1 ∨ n = 2 ∨ n = 3 by omega with rfl | rfl | rfl
  all_goals
    clear h1 h3
    go_enter Tryd.func61, Tryd.ntmps61
    go_wp2_with fail
    go_ret
    exact ⟨rfl, Gr.alloc _ _⟩
theorem formCells_w (k : Nat) (hk : k < 10) : formCells.toList[2 * k]? = some (strc (formW k)) := by
  rcases show k = 0 ∨ k = 1 ∨ k = 2 ∨ k = 3 ∨ k = 4 ∨ k = 5 ∨ k = 6 ∨ k = 7 ∨ k = 8 ∨ k = 9 by omega with rfl | rfl | rfl | rfl | rfl | rfl | rfl | rfl | rfl | rfl <;> rfl
theorem formCells_s (k : Nat) (hk : k < 10) : formCells.toList[2 * k + 1]? = some (strc (formS k)) := by
  rcases show k = 0 ∨ k = 1 ∨ k = 2 ∨ k = 3 ∨ k = 4 ∨ k = 5 ∨ k = 6 ∨ k = 7 ∨ k = 8 ∨ k = 9 by omega with rfl | rfl | rfl | rfl | rfl | rfl | rfl | rfl | rfl | rfl <;> rfl
def kindWs : Array Value := #[.string ⟨#[]⟩, .string ⟨#[99, 114, 101, 97, 116, 101]⟩, .string ⟨#[110, 101, 120, 116]⟩, .string ⟨#[115, 116, 97, 103, 101]⟩, .string ⟨#[118, 101, 114, 100, 105, 99, 116]⟩, .string ⟨#[101, 120, 112, 111, 114, 116]⟩, .string ⟨#[99, 108, 111, 115, 101]⟩, .string ⟨#[107, 101, 121, 112, 117, 116]⟩, .string ⟨#[107, 101, 121, 116, 97, 107, 101]⟩, .string ⟨#[108, 111, 111, 107]⟩]
def kindSs : Array Value := #[.string ⟨#[]⟩, .string ⟨#[103, 115, 120]⟩, .string ⟨#[103, 101, 115, 110]⟩, .string ⟨#[103, 105, 120]⟩, .string ⟨#[103, 101, 105, 118]⟩, .string ⟨#[103, 101]⟩, .string ⟨#[103]⟩, .string ⟨#[105, 120]⟩, .string ⟨#[105]⟩, .string ⟨#[103]⟩]
theorem kindWs_at (k : Nat) (hk : k < 10) : kindWs.toList[k]? = some (strc (formW k)) := by
  rcases show k = 0 ∨ k = 1 ∨ k = 2 ∨ k = 3 ∨ k = 4 ∨ k = 5 ∨ k = 6 ∨ k = 7 ∨ k = 8 ∨ k = 9 by omega with rfl | rfl | rfl | rfl | rfl | rfl | rfl | rfl | rfl | rfl <;> rfl
theorem kindSs_at (k : Nat) (hk : k < 10) : kindSs.toList[k]? = some (strc (formS k)) := by
  rcases show k = 0 ∨ k = 1 ∨ k = 2 ∨ k = 3 ∨ k = 4 ∨ k = 5 ∨ k = 6 ∨ k = 7 ∨ k = 8 ∨ k = 9 by omega with rfl | rfl | rfl | rfl | rfl | rfl | rfl | rfl | rfl | rfl <;> rfl
set_option maxRecDepth 100000 in
theorem kinds_any (k : Nat) (w : World) (hk : k < 10) : Calls Tryd.prog 28 #[.int .i64 (k : Int)] w fun e w' => e = .returned (.tuple #[strc (formW k), strc (formS k)]) ∧ Gr w w' := by
  by_cases h0 : k < 1
  · obtain rfl : k = 0 := by omega
    have t1 : decide (((0 : Nat) : Int) < 1) = true := by decide
    go_enter Tryd.func28, Tryd.ntmps28
    go_wp2_with fail
    go_ret2
    exact ⟨rfl, (Gr.alloc w _).trans (Gr.alloc _ _)⟩
  · have t1 : decide ((k : Int) < 1) = false := decide_eq_false (by omega)
    have t2 : decide ((9 : Int) < (k : Int)) = false := decide_eq_false (by omega)
    have hi : (k : Int) < 10 := by omega
    have hw := Lib.hid (kindWs_at k hk)
    have hs := Lib.hid (kindSs_at k hk)
    obtain ⟨x, hx⟩ : ∃ x : ByteArray, strc (formW k) = .string x := ⟨_, rfl⟩
    obtain ⟨y, hy⟩ : ∃ y : ByteArray, strc (formS k) = .string y := ⟨_, rfl⟩
    rw [hx] at hw ⊢
    rw [hy] at hs ⊢
    clear hx hy
    go_enter Tryd.func28, Tryd.ntmps28
    go_wp2_with fail
    have b1 : Blk ((w.alloc (.cells kindWs 9)).alloc (.cells kindSs 9)) w.heap.size 9 kindWs.toList := (Blk.new w 9 kindWs).mono (Gr.alloc _ _)
    have b2 : Blk ((w.alloc (.cells kindWs 9)).alloc (.cells kindSs 9)) (w.heap.size + 1) 9 kindSs.toList := by
      have := Blk.new (w.alloc (.cells kindWs 9)) 9 kindSs
      rw [show (w.alloc (.cells kindWs 9)).heap.size = w.heap.size + 1 by simp] at this
      exact this
    have g2 : Gr w ((w.alloc (.cells kindWs 9)).alloc (.cells kindSs 9)) := (Gr.alloc w _).trans (Gr.alloc _ _)
    have c1 := (b1.cell k).trans hw.out
    have c2 := (b2.cell k).trans hs.out
    clear b1 b2
    obtain ⟨wl, hwl⟩ : ∃ wl, wl = (w.alloc (.cells kindWs 9)).alloc (.cells kindSs 9) := ⟨_, rfl⟩
    rw [← hwl] at c1 c2 g2
    have G2 := Lib.hid g2; clear g2
    show Code.wp _ _ _ _ ((w.alloc (.cells kindWs 9)).alloc (.cells kindSs 9))
    rw [← hwl]
    clear hwl
    go_quiet (fail)
    go_wp2
    go_ret2
    exact ⟨rfl, G2.out.trans (belowN (Gr.refl _) _)⟩
end Go.Proofs.YtadenlhnfkccaaaDoor
