/- Own texts of this claim, one behind the other. No condition. -/
import Derived.Test.YtcfbbgbjlgonpaaGreatDoorObPkAM
import Derived.Outline
import Derived.Laws.StructEq
import Derived.Deep.QuietTactic
import Derived.BigQuiet

/- ObTermM, ObTermN, ObTermO, ObTermP, ObTermQ: one text. No condition. -/
/- Acts: are they light? No condition. -/
namespace Go.Proofs.YtcfbbgbjlgonpaaGreatDoor
open Go.RowKit
set_option linter.unusedVariables false
end Go.Proofs.YtcfbbgbjlgonpaaGreatDoor
/- The reference's Put. No condition. -/
namespace Go.Proofs.YtcfbbgbjlgonpaaGreatDoor
open Go.RowKit
set_option linter.unusedVariables false
set_option linter.unusedSimpArgs false
set_option maxHeartbeats 1000000 in
theorem eq_node (yk ya yb yn xk xa xb xn : Nat) (ys xs : ByteArray) (w : World) : (binOp .eql 134 (.agg #[.int .i64 (yk : Int), .int .i64 (ya : Int), .int .i64 (yb : Int), .string ys, .int .i64 (yn : Int)]) (.agg #[.int .i64 (xk : Int), .int .i64 (xa : Int), .int .i64 (xb : Int), .string xs, .int .i64 (xn : Int)])).run Tryz.prog w = .ok (.bool (decide (yk = xk ∧ ya = xa ∧ yb = xb ∧ ys = xs ∧ yn = xn))) w := by
  rw [run_eql_struct, run_equalIn_agg _ _ _ _ _ (by kernel_rfl) (by kernel_rfl)]
  have hs : (ys.toList == xs.toList) = decide (ys = xs) := by
    by_cases h : ys = xs
    · rw [h]; simp
    · rw [decide_eq_false h, beq_eq_false_iff_ne]
      intro hh
      rw [ByteArray.toList_eq, ByteArray.toList_eq] at hh
      obtain ⟨⟨a⟩⟩ := ys
      obtain ⟨⟨b⟩⟩ := xs
      exact h (by simpa using hh)
  by_cases h0 : yk = xk <;> by_cases h1 : ya = xa <;> by_cases h2 : yb = xb <;> by_cases h3 : ys = xs <;> by_cases h4 : yn = xn
  all_goals
    simp only [h0, h1, h2, h3, h4] at hs ⊢
    simp [Program.fieldsOf, Tryz.underlying134, Tryz.underlying3, Tryz.underlying9, Op.eqFields, go_sem, h0, h1, h2, h3, h4, hs]
    try omega
/-- What Put answers of a node that is no atom, whose parts are there. -/
def putD (T : List Nd) (x : Nd) : List Nd × Nat := match findT T x with
  | some j => (T, j + 1)
  | none => (T ++ [x], T.length + 1)
def nodeV (x : Nd) : Value := .agg #[.int .i64 (x.k : Int), .int .i64 (x.a : Int), .int .i64 (x.b : Int), .string x.s, .int .i64 (x.n : Int)]
theorem refPut_out (A : Option Addr) (n c : Nat) (k a b : Int) (s : ByteArray) (w : World) (h : (3 ≤ k ∧ outside n a = true) ∨ (4 ≤ k ∧ outside n b = true)) :
    Calls Tryz.prog 102 #[.slice A n c, .agg #[.int .i64 k, .int .i64 a, .int .i64 b, .string s, .int .i64 0]] w fun e w' => e = .returned (.tuple #[.slice A n c, .int .i64 0]) ∧ Gr w w' := by
  have hg := Lib.hid (Gr.alloc w (.cells #[.int .i64 k, .int .i64 a, .int .i64 b, .string s, .int .i64 0] 134))
  have HA := Lib.hid (refThere_any A n c a (w.alloc (.cells #[.int .i64 k, .int .i64 a, .int .i64 b, .string s, .int .i64 0] 134)))
  have HB := Lib.hid (refThere_any A n c b (w.alloc (.cells #[.int .i64 k, .int .i64 a, .int .i64 b, .string s, .int .i64 0] 134)))
  by_cases ha : 3 ≤ k ∧ outside n a = true
  · obtain ⟨h3, ho⟩ := ha
    rw [ho] at HA
    have t0 : decide (3 ≤ k) = true := by simpa using h3
    clear h ho
    go_enter Tryz.func102, Tryz.ntmps102
    go_wp2_with fail
    refine HA.out.mono ?_
    rintro e w1 ⟨rfl, rfl⟩
    go_wp2_with fail
    go_ret2
    exact ⟨rfl, hg.out⟩
  · have hb : 4 ≤ k ∧ outside n b = true := h.resolve_left ha
    obtain ⟨h4, ho⟩ := hb
    have hna : outside n a = false := by
      cases hq : outside n a with
      | false => rfl
      | true => exact (ha ⟨by omega, hq⟩).elim
    rw [ho] at HB
    rw [hna] at HA
    have t0 : decide (3 ≤ k) = true := decide_eq_true (by omega)
    have t1 : decide (4 ≤ k) = true := decide_eq_true h4
    clear h ho ha hna
    go_enter Tryz.func102, Tryz.ntmps102
    go_wp2_with fail
    refine HA.out.mono ?_
    rintro e w1 ⟨rfl, rfl⟩
    go_wp2_with fail
    refine HB.out.mono ?_
    rintro e w1 ⟨rfl, rfl⟩
    go_wp2_with fail
    go_ret2
    exact ⟨rfl, hg.out⟩
/-- Only atoms bear a number. -/
def NZ (T : List Nd) : Prop := ∀ y ∈ T, y.k ≠ 1 → y.n = 0
theorem find_hit {α : Type} {T : List α} {p : α → Bool} {k : Nat} {y : α} (hy : T[k]? = some y) (hp : p y = true) (hf : (T.take k).findIdx? p = none) : T.findIdx? p = some k := by
  rw [List.findIdx?_eq_none_iff] at hf
  have hk : k < T.length := (List.getElem?_eq_some_iff.1 hy).1
  rw [List.findIdx?_eq_some_iff_getElem]
  refine ⟨hk, ?_, fun j hj => ?_⟩
  · rw [List.getElem?_eq_getElem hk] at hy
    injection hy with hy
    rw [hy]; exact hp
  · rw [hf T[j] (by rw [List.mem_iff_getElem]; exact ⟨j, by simp; omega, by simp⟩)]; simp
theorem find_miss {α : Type} {T : List α} {p : α → Bool} {k : Nat} {y : α} (hy : T[k]? = some y) (hp : p y = false) (hf : (T.take k).findIdx? p = none) : (T.take (k + 1)).findIdx? p = none := by
  have hk : k < T.length := (List.getElem?_eq_some_iff.1 hy).1
  rw [List.take_succ_eq_append_getElem hk]
  rw [List.getElem?_eq_getElem hk] at hy
  injection hy with hy
  rw [List.findIdx?_eq_none_iff] at hf ⊢
  intro z hz
  rcases List.mem_append.1 hz with h | h
  · exact hf z h
  · rw [List.mem_singleton] at h; rw [h, hy]; exact hp
theorem same_of {x y : Nd} (h2 : 2 ≤ x.k) (hn : x.n = 0) (hz : y.k ≠ 1 → y.n = 0) : (decide (y.k ≠ 1) && y.same x) = decide (y.k = x.k ∧ y.a = x.a ∧ y.b = x.b ∧ y.s = x.s ∧ y.n = x.n) := by
  unfold Nd.same
  rw [Bool.eq_iff_iff]
  simp only [Bool.and_eq_true, decide_eq_true_eq]
  exact ⟨fun ⟨h1, h3, h4, h5, h6⟩ => ⟨h3, h4, h5, h6, by rw [hz h1, hn]⟩, fun ⟨h3, h4, h5, h6, _⟩ => ⟨by omega, h3, h4, h5, h6⟩⟩
set_option maxHeartbeats 2000000 in
theorem refPut_in (w0 : World) (T : List Nd) (v : Value) (x : Nd) (w : World) (h : RTo w0 w v T) (hn : T.length ≤ 1000) (hz : NZ T) (hx0 : x.n = 0) (hx : x.k = 2 ∨ (x.k = 3 ∧ outside T.length x.a = false) ∨ ((x.k = 4 ∨ x.k = 5) ∧ outside T.length x.a = false ∧ outside T.length x.b = false)) :
    Calls Tryz.prog 102 #[v, nodeV x] w fun e w' => ∃ v', e = .returned (.tuple #[v', .int .i64 ((putD T x).2 : Int)]) ∧ RTo w0 w' v' (putD T x).1 ∧ Turn1 w w' v v' := by
  obtain ⟨A, c, rfl, hr⟩ := Own.rs h
  have HO := Lib.hid h
  obtain ⟨n, hl⟩ : ∃ n, n = T.length := ⟨_, rfl⟩
  have HL := Lib.hid hl
  rw [← hl] at HO hr hx ⊢
  have hn' : n ≤ 1000 := by omega
  have HH := Lib.hid hr
  unfold nodeV
  obtain ⟨xk, xa, xb, xs, xn⟩ := x
  simp only at hx hx0 ⊢
  have HZ : Hid (∀ (k : Nat) (y : Nd), T[k]? = some y → 2 ≤ xk → (decide (y.k ≠ 1) && y.same ⟨xk, xa, xb, xs, xn⟩) = decide (y.k = xk ∧ y.a = xa ∧ y.b = xb ∧ y.s = xs ∧ y.n = xn)) := fun k y hy h2 => same_of (x := ⟨xk, xa, xb, xs, xn⟩) h2 hx0 (hz y (List.mem_of_getElem? hy))
  clear hz hx0
  have HA := Lib.hid (refThere_any A n c xa (w.alloc (.cells #[.int .i64 xk, .int .i64 xa, .int .i64 xb, .string xs, .int .i64 xn] 134)))
  have HB := Lib.hid (refThere_any A n c xb (w.alloc (.cells #[.int .i64 xk, .int .i64 xa, .int .i64 xb, .string xs, .int .i64 xn] 134)))
  clear h hr hl hn
  obtain ⟨W, hW⟩ : ∃ W, W = w.alloc (.cells #[.int .i64 xk, .int .i64 xa, .int .i64 xb, .string xs, .int .i64 xn] 134) := ⟨_, rfl⟩
  have HG : Hid (Gr w W) := by show Gr w W; rw [hW]; exact Gr.alloc _ _
  have hB : Blk W w.heap.size 134 [.int .i64 xk, .int .i64 xa, .int .i64 xb, .string xs, .int .i64 xn] := by rw [hW]; exact Blk.new w _ _
  have x0 := hB.cell 0
  have x1 := hB.cell 1
  have x2 := hB.cell 2
  have x3 := hB.cell 3
  have x4 := hB.cell 4
  simp only [List.getElem?_cons_zero, List.getElem?_cons_succ] at x0 x1 x2 x3 x4
  rw [← hW] at HA HB
  have HW := Lib.hid hW; have HBL := Lib.hid hB
  clear hB hW
  rcases hx with hk | ⟨hk, ho⟩ | ⟨hk, ho, ho2⟩
  · have t3 : decide (3 ≤ (xk : Int)) = false := decide_eq_false (by omega)
    have t4 : decide (4 ≤ (xk : Int)) = false := decide_eq_false (by omega)
    have HK : Hid (2 ≤ xk ∧ xk ≤ 5) := ⟨by omega, by omega⟩
    clear hk
    go_enter Tryz.func102, Tryz.ntmps102
    go_wp2_with fail
    rw [← HW.out]
    go_loopw [6] (fun i wr => ∃ k : Nat, k ≤ n ∧ i = .int .i64 k ∧ Gr W wr ∧ (T.take k).findIdx? (fun y => decide (y.k ≠ 1) && y.same ⟨xk, xa, xb, xs, xn⟩) = none) (fun i _ => n - (Go.RowKit.intOf i).toNat)
    case atStart => exact ⟨0, Nat.zero_le _, rfl, Gr.refl _, rfl⟩
    case round =>
      obtain ⟨k, hk, rfl, hg, hf⟩ := hrel
      have HF := Lib.hid hf; have HGr := Lib.hid hg; clear hf
      by_cases hlt : k < n
      · have hr := HH.out.mono (HG.out.trans hg)
        obtain ⟨b, o, y, rfl, hy, c0, c1, c2, c3, c4⟩ := RTb.row hr hlt
        have z0 := (Below.cell hg (World.block_lt_of_cell? W _ x0)).trans x0
        have z1 := (Below.cell hg (World.block_lt_of_cell? W _ x1)).trans x1
        have z2 := (Below.cell hg (World.block_lt_of_cell? W _ x2)).trans x2
        have z3 := (Below.cell hg (World.block_lt_of_cell? W _ x3)).trans x3
        have z4 := (Below.cell hg (World.block_lt_of_cell? W _ x4)).trans x4
        have t0 : decide ((k : Int) < (n : Int)) = true := decide_eq_true (by omega)
        clear hg hr x0 x1 x2 x3 x4
        have HY := Lib.hid hy; clear hy
        have HP := Lib.hid (HZ.out k y HY.out HK.out.1)
        by_cases hd : y.k = xk ∧ y.a = xa ∧ y.b = xb ∧ y.s = xs ∧ y.n = xn
        · have he : ∀ w, (binOp .eql 134 (.agg #[.int .i64 (y.k : Int), .int .i64 (y.a : Int), .int .i64 (y.b : Int), .string y.s, .int .i64 (y.n : Int)]) (.agg #[.int .i64 (xk : Int), .int .i64 (xa : Int), .int .i64 (xb : Int), .string xs, .int .i64 (xn : Int)])).run Tryz.prog w = .ok (.bool true) w := fun w => by rw [eq_node, decide_eq_true hd]
          have HD : Hid (findT T ⟨xk, xa, xb, xs, xn⟩ = some k) := find_hit HY.out (HP.out.trans (decide_eq_true hd)) HF.out
          clear hd
          go_wp2_with fail
          go_quiet (fail)
          go_wp2_with fail
          go_ret2
          unfold putD
          rw [HD.out]
          exact ⟨_, rfl, (HO.out.mono (HG.out.trans HGr.out)).drewN _, Turn1.gr ((HG.out.trans HGr.out).trans (belowN (Below.refl _ _) _)) _⟩
        · have he : ∀ w, (binOp .eql 134 (.agg #[.int .i64 (y.k : Int), .int .i64 (y.a : Int), .int .i64 (y.b : Int), .string y.s, .int .i64 (y.n : Int)]) (.agg #[.int .i64 (xk : Int), .int .i64 (xa : Int), .int .i64 (xb : Int), .string xs, .int .i64 (xn : Int)])).run Tryz.prog w = .ok (.bool false) w := fun w => by rw [eq_node, decide_eq_false hd]
          have HD : Hid ((T.take (k + 1)).findIdx? (fun y => decide (y.k ≠ 1) && y.same ⟨xk, xa, xb, xs, xn⟩) = none) := find_miss HY.out (HP.out.trans (decide_eq_false hd)) HF.out
          clear hd
          go_wp2_with fail
          go_quiet (fail)
          go_wp2_with fail
          refine ⟨⟨k + 1, hlt, by simp, HGr.out.trans (belowN (Below.refl _ _) _), HD.out⟩, ?_⟩
          simp [Go.RowKit.intOf]; omega
      · obtain rfl : k = n := by omega
        have t0 : decide ((k : Int) < (k : Int)) = false := by simp
        have HD : Hid (findT T ⟨xk, xa, xb, xs, xn⟩ = none) := by
          have := HF.out
          rwa [List.take_of_length_le (by rw [← HL.out]; exact Nat.le_refl _)] at this
        have HO3 := HO.out.mono (HG.out.trans HGr.out)
        unfold RTo at HO3
        rw [← HL.out] at HO3
        have HO4 := Lib.hid HO3; clear HO3
        have z0 := (Below.cell hg (World.block_lt_of_cell? W _ x0)).trans x0
        have z1 := (Below.cell hg (World.block_lt_of_cell? W _ x1)).trans x1
        have z2 := (Below.cell hg (World.block_lt_of_cell? W _ x2)).trans x2
        have z3 := (Below.cell hg (World.block_lt_of_cell? W _ x3)).trans x3
        have z4 := (Below.cell hg (World.block_lt_of_cell? W _ x4)).trans x4
        clear x0 x1 x2 x3 x4 hg
        have N1 : Hid (∀ u ∈ (#[.int .i64 (xk : Int), .int .i64 (xa : Int), .int .i64 (xb : Int), .string xs, .int .i64 (xn : Int)] : Array Value).toList, u.oneCell' = true) := fun u hu => by simp at hu; rcases hu with rfl | rfl | rfl | rfl | rfl <;> rfl
        have w1 : IntKind.i64.wrap ((k : Int) + 1) = (k : Int) + 1 := IntWalk.i64_in _ (by omega)
        go_wp2_with (at_builtin; go_loud (refine wpList_pushAtG rfl _ _ 30 rfl tNode rfl HO4.out _ (by simp) #[_, _, _, _, _] rfl rfl N1.out (by omega) ?_); intro v1 w3 own1 tn1)
        go_ret2
        unfold putD
        rw [HD.out]
        refine ⟨v1, ?_, ?_, (Turn1.gr (HG.out.trans HGr.out) _).trans tn1⟩
        · rw [← HL.out]; rfl
        · unfold RTo
          rw [List.length_append, List.flatMap_append, ← HL.out]
          exact own1
  · have t3 : decide (3 ≤ (xk : Int)) = true := decide_eq_true (by omega)
    have t4 : decide (4 ≤ (xk : Int)) = false := decide_eq_false (by omega)
    have HK : Hid (2 ≤ xk ∧ xk ≤ 5) := ⟨by omega, by omega⟩
    rw [ho] at HA
    clear hk ho
    go_enter Tryz.func102, Tryz.ntmps102
    go_wp2_with fail
    rw [← HW.out]
    refine HA.out.mono ?_
    rintro e w1 ⟨rfl, h1⟩
    obtain rfl : W = w1 := h1.symm
    go_wp2_with fail
    go_loopw [6] (fun i wr => ∃ k : Nat, k ≤ n ∧ i = .int .i64 k ∧ Gr W wr ∧ (T.take k).findIdx? (fun y => decide (y.k ≠ 1) && y.same ⟨xk, xa, xb, xs, xn⟩) = none) (fun i _ => n - (Go.RowKit.intOf i).toNat)
    case atStart => exact ⟨0, Nat.zero_le _, rfl, Gr.refl _, rfl⟩
    case round =>
      obtain ⟨k, hk, rfl, hg, hf⟩ := hrel
      have HF := Lib.hid hf; have HGr := Lib.hid hg; clear hf
      by_cases hlt : k < n
      · have hr := HH.out.mono (HG.out.trans hg)
        obtain ⟨b, o, y, rfl, hy, c0, c1, c2, c3, c4⟩ := RTb.row hr hlt
        have z0 := (Below.cell hg (World.block_lt_of_cell? W _ x0)).trans x0
        have z1 := (Below.cell hg (World.block_lt_of_cell? W _ x1)).trans x1
        have z2 := (Below.cell hg (World.block_lt_of_cell? W _ x2)).trans x2
        have z3 := (Below.cell hg (World.block_lt_of_cell? W _ x3)).trans x3
        have z4 := (Below.cell hg (World.block_lt_of_cell? W _ x4)).trans x4
        have t0 : decide ((k : Int) < (n : Int)) = true := decide_eq_true (by omega)
        clear hg hr x0 x1 x2 x3 x4
        have HY := Lib.hid hy; clear hy
        have HP := Lib.hid (HZ.out k y HY.out HK.out.1)
        by_cases hd : y.k = xk ∧ y.a = xa ∧ y.b = xb ∧ y.s = xs ∧ y.n = xn
        · have he : ∀ w, (binOp .eql 134 (.agg #[.int .i64 (y.k : Int), .int .i64 (y.a : Int), .int .i64 (y.b : Int), .string y.s, .int .i64 (y.n : Int)]) (.agg #[.int .i64 (xk : Int), .int .i64 (xa : Int), .int .i64 (xb : Int), .string xs, .int .i64 (xn : Int)])).run Tryz.prog w = .ok (.bool true) w := fun w => by rw [eq_node, decide_eq_true hd]
          have HD : Hid (findT T ⟨xk, xa, xb, xs, xn⟩ = some k) := find_hit HY.out (HP.out.trans (decide_eq_true hd)) HF.out
          clear hd
          go_wp2_with fail
          go_quiet (fail)
          go_wp2_with fail
          go_ret2
          unfold putD
          rw [HD.out]
          exact ⟨_, rfl, (HO.out.mono (HG.out.trans HGr.out)).drewN _, Turn1.gr ((HG.out.trans HGr.out).trans (belowN (Below.refl _ _) _)) _⟩
        · have he : ∀ w, (binOp .eql 134 (.agg #[.int .i64 (y.k : Int), .int .i64 (y.a : Int), .int .i64 (y.b : Int), .string y.s, .int .i64 (y.n : Int)]) (.agg #[.int .i64 (xk : Int), .int .i64 (xa : Int), .int .i64 (xb : Int), .string xs, .int .i64 (xn : Int)])).run Tryz.prog w = .ok (.bool false) w := fun w => by rw [eq_node, decide_eq_false hd]
          have HD : Hid ((T.take (k + 1)).findIdx? (fun y => decide (y.k ≠ 1) && y.same ⟨xk, xa, xb, xs, xn⟩) = none) := find_miss HY.out (HP.out.trans (decide_eq_false hd)) HF.out
          clear hd
          go_wp2_with fail
          go_quiet (fail)
          go_wp2_with fail
          refine ⟨⟨k + 1, hlt, by simp, HGr.out.trans (belowN (Below.refl _ _) _), HD.out⟩, ?_⟩
          simp [Go.RowKit.intOf]; omega
      · obtain rfl : k = n := by omega
        have t0 : decide ((k : Int) < (k : Int)) = false := by simp
        have HD : Hid (findT T ⟨xk, xa, xb, xs, xn⟩ = none) := by
          have := HF.out
          rwa [List.take_of_length_le (by rw [← HL.out]; exact Nat.le_refl _)] at this
        have HO3 := HO.out.mono (HG.out.trans HGr.out)
        unfold RTo at HO3
        rw [← HL.out] at HO3
        have HO4 := Lib.hid HO3; clear HO3
        have z0 := (Below.cell hg (World.block_lt_of_cell? W _ x0)).trans x0
        have z1 := (Below.cell hg (World.block_lt_of_cell? W _ x1)).trans x1
        have z2 := (Below.cell hg (World.block_lt_of_cell? W _ x2)).trans x2
        have z3 := (Below.cell hg (World.block_lt_of_cell? W _ x3)).trans x3
        have z4 := (Below.cell hg (World.block_lt_of_cell? W _ x4)).trans x4
        clear x0 x1 x2 x3 x4 hg
        have N1 : Hid (∀ u ∈ (#[.int .i64 (xk : Int), .int .i64 (xa : Int), .int .i64 (xb : Int), .string xs, .int .i64 (xn : Int)] : Array Value).toList, u.oneCell' = true) := fun u hu => by simp at hu; rcases hu with rfl | rfl | rfl | rfl | rfl <;> rfl
        have w1 : IntKind.i64.wrap ((k : Int) + 1) = (k : Int) + 1 := IntWalk.i64_in _ (by omega)
        go_wp2_with (at_builtin; go_loud (refine wpList_pushAtG rfl _ _ 30 rfl tNode rfl HO4.out _ (by simp) #[_, _, _, _, _] rfl rfl N1.out (by omega) ?_); intro v1 w3 own1 tn1)
        go_ret2
        unfold putD
        rw [HD.out]
        refine ⟨v1, ?_, ?_, (Turn1.gr (HG.out.trans HGr.out) _).trans tn1⟩
        · rw [← HL.out]; rfl
        · unfold RTo
          rw [List.length_append, List.flatMap_append, ← HL.out]
          exact own1
  · have t3 : decide (3 ≤ (xk : Int)) = true := decide_eq_true (by omega)
    have t4 : decide (4 ≤ (xk : Int)) = true := decide_eq_true (by omega)
    have HK : Hid (2 ≤ xk ∧ xk ≤ 5) := ⟨by omega, by omega⟩
    rw [ho] at HA
    rw [ho2] at HB
    clear hk ho ho2
    go_enter Tryz.func102, Tryz.ntmps102
    go_wp2_with fail
    rw [← HW.out]
    refine HA.out.mono ?_
    rintro e w1 ⟨rfl, h1⟩
    obtain rfl : W = w1 := h1.symm
    go_wp2_with fail
    refine HB.out.mono ?_
    rintro e w2 ⟨rfl, h2⟩
    obtain rfl : W = w2 := h2.symm
    go_wp2_with fail
    go_loopw [6] (fun i wr => ∃ k : Nat, k ≤ n ∧ i = .int .i64 k ∧ Gr W wr ∧ (T.take k).findIdx? (fun y => decide (y.k ≠ 1) && y.same ⟨xk, xa, xb, xs, xn⟩) = none) (fun i _ => n - (Go.RowKit.intOf i).toNat)
    case atStart => exact ⟨0, Nat.zero_le _, rfl, Gr.refl _, rfl⟩
    case round =>
      obtain ⟨k, hk, rfl, hg, hf⟩ := hrel
      have HF := Lib.hid hf; have HGr := Lib.hid hg; clear hf
      by_cases hlt : k < n
      · have hr := HH.out.mono (HG.out.trans hg)
        obtain ⟨b, o, y, rfl, hy, c0, c1, c2, c3, c4⟩ := RTb.row hr hlt
        have z0 := (Below.cell hg (World.block_lt_of_cell? W _ x0)).trans x0
        have z1 := (Below.cell hg (World.block_lt_of_cell? W _ x1)).trans x1
        have z2 := (Below.cell hg (World.block_lt_of_cell? W _ x2)).trans x2
        have z3 := (Below.cell hg (World.block_lt_of_cell? W _ x3)).trans x3
        have z4 := (Below.cell hg (World.block_lt_of_cell? W _ x4)).trans x4
        have t0 : decide ((k : Int) < (n : Int)) = true := decide_eq_true (by omega)
        clear hg hr x0 x1 x2 x3 x4
        have HY := Lib.hid hy; clear hy
        have HP := Lib.hid (HZ.out k y HY.out HK.out.1)
        by_cases hd : y.k = xk ∧ y.a = xa ∧ y.b = xb ∧ y.s = xs ∧ y.n = xn
        · have he : ∀ w, (binOp .eql 134 (.agg #[.int .i64 (y.k : Int), .int .i64 (y.a : Int), .int .i64 (y.b : Int), .string y.s, .int .i64 (y.n : Int)]) (.agg #[.int .i64 (xk : Int), .int .i64 (xa : Int), .int .i64 (xb : Int), .string xs, .int .i64 (xn : Int)])).run Tryz.prog w = .ok (.bool true) w := fun w => by rw [eq_node, decide_eq_true hd]
          have HD : Hid (findT T ⟨xk, xa, xb, xs, xn⟩ = some k) := find_hit HY.out (HP.out.trans (decide_eq_true hd)) HF.out
          clear hd
          go_wp2_with fail
          go_quiet (fail)
          go_wp2_with fail
          go_ret2
          unfold putD
          rw [HD.out]
          exact ⟨_, rfl, (HO.out.mono (HG.out.trans HGr.out)).drewN _, Turn1.gr ((HG.out.trans HGr.out).trans (belowN (Below.refl _ _) _)) _⟩
        · have he : ∀ w, (binOp .eql 134 (.agg #[.int .i64 (y.k : Int), .int .i64 (y.a : Int), .int .i64 (y.b : Int), .string y.s, .int .i64 (y.n : Int)]) (.agg #[.int .i64 (xk : Int), .int .i64 (xa : Int), .int .i64 (xb : Int), .string xs, .int .i64 (xn : Int)])).run Tryz.prog w = .ok (.bool false) w := fun w => by rw [eq_node, decide_eq_false hd]
          have HD : Hid ((T.take (k + 1)).findIdx? (fun y => decide (y.k ≠ 1) && y.same ⟨xk, xa, xb, xs, xn⟩) = none) := find_miss HY.out (HP.out.trans (decide_eq_false hd)) HF.out
          clear hd
          go_wp2_with fail
          go_quiet (fail)
          go_wp2_with fail
          refine ⟨⟨k + 1, hlt, by simp, HGr.out.trans (belowN (Below.refl _ _) _), HD.out⟩, ?_⟩
          simp [Go.RowKit.intOf]; omega
      · obtain rfl : k = n := by omega
        have t0 : decide ((k : Int) < (k : Int)) = false := by simp
        have HD : Hid (findT T ⟨xk, xa, xb, xs, xn⟩ = none) := by
          have := HF.out
          rwa [List.take_of_length_le (by rw [← HL.out]; exact Nat.le_refl _)] at this
        have HO3 := HO.out.mono (HG.out.trans HGr.out)
        unfold RTo at HO3
        rw [← HL.out] at HO3
        have HO4 := Lib.hid HO3; clear HO3
        have z0 := (Below.cell hg (World.block_lt_of_cell? W _ x0)).trans x0
        have z1 := (Below.cell hg (World.block_lt_of_cell? W _ x1)).trans x1
        have z2 := (Below.cell hg (World.block_lt_of_cell? W _ x2)).trans x2
        have z3 := (Below.cell hg (World.block_lt_of_cell? W _ x3)).trans x3
        have z4 := (Below.cell hg (World.block_lt_of_cell? W _ x4)).trans x4
        clear x0 x1 x2 x3 x4 hg
        have N1 : Hid (∀ u ∈ (#[.int .i64 (xk : Int), .int .i64 (xa : Int), .int .i64 (xb : Int), .string xs, .int .i64 (xn : Int)] : Array Value).toList, u.oneCell' = true) := fun u hu => by simp at hu; rcases hu with rfl | rfl | rfl | rfl | rfl <;> rfl
        have w1 : IntKind.i64.wrap ((k : Int) + 1) = (k : Int) + 1 := IntWalk.i64_in _ (by omega)
        go_wp2_with (at_builtin; go_loud (refine wpList_pushAtG rfl _ _ 30 rfl tNode rfl HO4.out _ (by simp) #[_, _, _, _, _] rfl rfl N1.out (by omega) ?_); intro v1 w3 own1 tn1)
        go_ret2
        unfold putD
        rw [HD.out]
        refine ⟨v1, ?_, ?_, (Turn1.gr (HG.out.trans HGr.out) _).trans tn1⟩
        · rw [← HL.out]; rfl
        · unfold RTo
          rw [List.length_append, List.flatMap_append, ← HL.out]
          exact own1
end Go.Proofs.YtcfbbgbjlgonpaaGreatDoor
/- The reference's table of terms: any act. No condition. -/
namespace Go.Proofs.YtcfbbgbjlgonpaaGreatDoor
open Go.RowKit
set_option linter.unusedVariables false
def RetR (w0 w : World) (v : Value) (r : List Nd × Nat) (e : Ending) (w' : World) : Prop := ∃ v', e = .returned (.tuple #[v', .int .i64 (r.2 : Int)]) ∧ RTo w0 w' v' r.1 ∧ Turn1 w w' v v'
theorem in_of {n : Nat} {a : Int} (h : outside n a = false) : ∃ m : Nat, a = (m : Int) := by
  unfold outside at h
  simp at h
  exact ⟨a.toNat, by omega⟩
theorem atoms_at {T : List Nd} {v : Value} {w0 w : World} (h : RTo w0 w v T) : ∃ A c, v = .slice A T.length c := by
  obtain ⟨A, c, e, _⟩ := Own.rs h
  exact ⟨A, c, e⟩
/-- Put, any node but an atom. -/
def putR (T : List Nd) (k : Nat) (a b : Int) (s : ByteArray) : List Nd × Nat := if (3 ≤ k ∧ outside T.length a = true) ∨ (4 ≤ k ∧ outside T.length b = true) then (T, 0) else putD T ⟨k, a.toNat, b.toNat, s, 0⟩
theorem refTermPut_any (w0 : World) (T : List Nd) (v : Value) (k : Nat) (a b : Int) (s : ByteArray) (w : World) (h : RTo w0 w v T) (hn : T.length ≤ 1000) (hz : NZ T) (hk : (k = 2 ∧ a = 0 ∧ b = 0) ∨ (k = 3 ∧ b = 0) ∨ k = 4 ∨ k = 5) :
    Calls Tryz.prog 102 #[v, .agg #[.int .i64 (k : Int), .int .i64 a, .int .i64 b, .string s, .int .i64 0]] w (RetR w0 w v (putR T k a b s)) := by
  unfold putR
  split
  · next ho =>
    obtain ⟨A, c, rfl⟩ := atoms_at h
    refine (refPut_out A T.length c k a b s w (ho.imp (fun q => ⟨by omega, q.2⟩) (fun q => ⟨by omega, q.2⟩))).mono ?_
    rintro e w1 ⟨rfl, g⟩
    exact ⟨_, rfl, h.mono g, Turn1.gr g _⟩
  · next ho =>
    have na : 3 ≤ k → outside T.length a = false := fun h3 => by
      cases hq : outside T.length a with
      | false => rfl
      | true => exact (ho (.inl ⟨h3, hq⟩)).elim
    have nb : 4 ≤ k → outside T.length b = false := fun h3 => by
      cases hq : outside T.length b with
      | false => rfl
      | true => exact (ho (.inr ⟨h3, hq⟩)).elim
    have ea : ((a.toNat : Nat) : Int) = a := by
      rcases hk with ⟨_, q, _⟩ | ⟨q, _⟩ | q | q
      · rw [q]; rfl
      all_goals
        obtain ⟨m, e⟩ := in_of (na (by omega))
        rw [e]; rfl
    have eb : ((b.toNat : Nat) : Int) = b := by
      rcases hk with ⟨_, _, q⟩ | ⟨_, q⟩ | q | q
      · rw [q]; rfl
      · rw [q]; rfl
      all_goals
        obtain ⟨m, e⟩ := in_of (nb (by omega))
        rw [e]; rfl
    have H := refPut_in w0 T v ⟨k, a.toNat, b.toNat, s, 0⟩ w h hn hz rfl (by
      show k = 2 ∨ _
      rcases hk with ⟨q, _⟩ | ⟨q, _⟩ | q
      · exact .inl q
      · exact .inr (.inl ⟨q, by show outside T.length ((a.toNat : Nat) : Int) = false; rw [ea]; exact na (by omega)⟩)
      · exact .inr (.inr ⟨q, by show outside T.length ((a.toNat : Nat) : Int) = false; rw [ea]; exact na (by omega), by show outside T.length ((b.toNat : Nat) : Int) = false; rw [eb]; exact nb (by omega)⟩))
    unfold nodeV at H
    simp only [ea, eb] at H
    exact H
theorem putT_eq {T : List Nd} {x : Nd} {ids : List Int} (h : ids.any (outside T.length) = false) : putT T x ids = putD T x := by
  unfold putT putD
  rw [if_neg (by rw [h]; decide)]
  cases findT T x <;> rfl
theorem nz_snoc {T : List Nd} {x : Nd} (h : NZ T) (hx : x.k ≠ 1 → x.n = 0) : NZ (T ++ [x]) := fun y hy hk => by
  rcases List.mem_append.1 hy with q | q
  · exact h y q hk
  · rw [List.mem_singleton] at q; rw [q] at hk ⊢; exact hx hk
end Go.Proofs.YtcfbbgbjlgonpaaGreatDoor
/- The program's table and the reference's, made of the same acts. No condition. -/
namespace Go.Proofs.YtcfbbgbjlgonpaaGreatDoor
open Go.RowKit
set_option linter.unusedVariables false
structure TGood (T : List Nd) (n : Nat) : Prop where
  i : TIn T
  z : NZ T
  l : T.length ≤ n
theorem TbF.below {w0 w : World} {g : Nat} {T : List Nd} {vl vs : Value} {bm : Nat} (h : TbF w0 w g T vl vs bm) : Below w0.heap.size w0 w := h.x.l.below
theorem TbF.turn {w0 w w' : World} {g : Nat} {T T' : List Nd} {vl vs vx vx' : Value} {bm : Nat} (h : TbF w0 w g T vl vs bm) (hr : RTo w0 w vx T') (t : Turn1 w w' vx vx') (hb : Below w0.heap.size w0 w') : TbF w0 w' g T vl vs bm := by
  have lt : ∀ {e : TypeId} {s n : Nat} {v : Value} {xs : List Value}, Own w0 w e s v n xs → ∀ b, v.ownBlock = some b → b < w.heap.size := fun ho b hv => by
    rcases ho.1.2 with ⟨h1, _⟩ | ⟨g', cap, cur, hv', _, hh, _⟩
    · rw [h1] at hv; cases hv
    · have e1 : g' = b := by rw [hv'] at hv; exact Option.some.inj hv
      rw [e1] at hh
      exact (Array.getElem?_eq_some_iff.1 hh).1
  have k1 : w'.heap[g]? = w.heap[g]? := t.keep g h.x.blk.lt (own_blk hr h.x.blk (by decide))
  have k2 : w'.heap[bm]? = w.heap[bm]? := t.keep bm h.m.lt (h.m.ne_own hr)
  have k3 : ∀ b, vl.ownBlock = some b → w'.heap[b]? = w.heap[b]? := fun b hv => t.keep b (lt h.x.l b hv) (own_other h.x.l hr (by decide) hv)
  have k4 : ∀ b, vs.ownBlock = some b → w'.heap[b]? = w.heap[b]? := fun b hv => t.keep b (lt h.x.s b hv) (own_other h.x.s hr (by decide) hv)
  exact ⟨⟨k1.trans h.x.blk, h.x.l.keepN hb k3, h.x.s.keepN hb k4, h.x.ge, h.x.gm⟩, h.m.keep k2⟩
theorem RTo.chg {w0 w w' : World} {g : Nat} {T T' : List Nd} {vl vs vl' vs' vx : Value} {bm : Nat} (hr : RTo w0 w vx T') (h : TbF w0 w g T vl vs bm) (c : TChM w w' g bm vl vs vl' vs') (hb : Below w0.heap.size w0 w') : RTo w0 w' vx T' := by
  refine Own.keepN hr hb fun b hv => ?_
  have hlt : b < w.heap.size := by
    rcases hr.1.2 with ⟨h1, _⟩ | ⟨g', cap, cur, hv', _, hh, _⟩
    · rw [h1] at hv; cases hv
    · have e1 : g' = b := by rw [hv'] at hv; exact Option.some.inj hv
      rw [e1] at hh
      exact (Array.getElem?_eq_some_iff.1 hh).1
  refine c.keep b hlt (fun e => ?_) (fun e => ?_) (own_other hr h.x.l (by decide) hv) (own_other hr h.x.s (by decide) hv)
  · subst e; exact own_blk hr h.x.blk (by decide) hv
  · subst e; exact h.m.ne_own hr hv
end Go.Proofs.YtcfbbgbjlgonpaaGreatDoor
/- made: both tables of the same acts. No condition. -/
namespace Go.Proofs.YtcfbbgbjlgonpaaGreatDoor
open Go.RowKit
set_option linter.unusedVariables false
end Go.Proofs.YtcfbbgbjlgonpaaGreatDoor
