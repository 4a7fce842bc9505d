/- Operations as lines: the reference's fields. No condition. -/
import Derived.Test.YtadenlhnfkccaaaDoorObOpB
import Derived.Outline
namespace Go.Proofs.YtadenlhnfkccaaaDoor
open Go.RowKit
set_option linter.unusedVariables false
set_option linter.unusedSimpArgs false
theorem refField_g (k : Int) (gt it : List UInt8) (ee sn n v : Int) (A : Option Addr) (m c : Nat) (w : World) (hl : gt.length ≤ 100000) :
    Calls Tryd.prog 29 #[.agg #[.int .i64 k, strc gt, strc it, .int .i64 ee, .int .i64 sn, .int .i64 n, .int .i64 v, .slice A m c], .int .u8 103] w fun e w' => e = .returned (strc (partT gt)) ∧ Gr w w' := by
  have G0 : Hid (Gr w (w.alloc (.cells #[.int .i64 k, strc gt, strc it, .int .i64 ee, .int .i64 sn, .int .i64 n, .int .i64 v, .slice A m c] 24))) := Gr.alloc w _
  have HC : Hid (Calls Tryd.prog 59 #[strc gt] (w.alloc (.cells #[.int .i64 k, strc gt, strc it, .int .i64 ee, .int .i64 sn, .int .i64 n, .int .i64 v, .slice A m c] 24)) fun e w' => e = .returned (.bool (partL gt)) ∧ Gr (w.alloc (.cells #[.int .i64 k, strc gt, strc it, .int .i64 ee, .int .i64 sn, .int .i64 n, .int .i64 v, .slice A m c] 24)) w') := refPart_any gt _ hl
  have HW0 : Hid (∀ w2, Gr (w.alloc (.cells #[.int .i64 k, strc gt, strc it, .int .i64 ee, .int .i64 sn, .int .i64 n, .int .i64 v, .slice A m c] 24)) w2 → w2.cell? ⟨w.heap.size, 1, none⟩ = some (strc gt)) := fun w2 g => by
    have hb := Blk.new w 24 #[.int .i64 k, strc gt, strc it, .int .i64 ee, .int .i64 sn, .int .i64 n, .int .i64 v, .slice A m c]
    rw [g.cell (p := ⟨w.heap.size, 1, none⟩) hb.lt, hb.cell]
    rfl
  cases hp : partL gt with
  | true =>
    have HF : Hid (partT gt = gt) := if_pos hp
    rw [HF.out]
    rw [hp] at HC
    clear hp
    go_enter Tryd.func29, Tryd.ntmps29
    go_wp2_with fail
    refine HC.out.mono ?_
    rintro e w2 ⟨rfl, g2⟩
    have c1 := HW0.out w2 g2
    have G2 := Lib.hid g2; clear g2
    go_wp2_with fail
    go_ret
    exact ⟨rfl, (G0.out).trans G2.out⟩
  | false =>
    have HF : Hid (partT gt = []) := if_neg (by rw [hp]; decide)
    rw [HF.out]
    rw [hp] at HC
    clear hp
    go_enter Tryd.func29, Tryd.ntmps29
    go_wp2_with fail
    refine HC.out.mono ?_
    rintro e w2 ⟨rfl, g2⟩
    have G2 := Lib.hid g2; clear g2
    go_wp2_with fail
    go_ret
    exact ⟨rfl, (G0.out).trans G2.out⟩
theorem refField_i (k : Int) (gt it : List UInt8) (ee sn n v : Int) (A : Option Addr) (m c : Nat) (w : World) (hl : it.length ≤ 100000) :
    Calls Tryd.prog 29 #[.agg #[.int .i64 k, strc gt, strc it, .int .i64 ee, .int .i64 sn, .int .i64 n, .int .i64 v, .slice A m c], .int .u8 105] w fun e w' => e = .returned (strc (partT it)) ∧ Gr w w' := by
  have G0 : Hid (Gr w (w.alloc (.cells #[.int .i64 k, strc gt, strc it, .int .i64 ee, .int .i64 sn, .int .i64 n, .int .i64 v, .slice A m c] 24))) := Gr.alloc w _
  have HC : Hid (Calls Tryd.prog 59 #[strc it] (w.alloc (.cells #[.int .i64 k, strc gt, strc it, .int .i64 ee, .int .i64 sn, .int .i64 n, .int .i64 v, .slice A m c] 24)) fun e w' => e = .returned (.bool (partL it)) ∧ Gr (w.alloc (.cells #[.int .i64 k, strc gt, strc it, .int .i64 ee, .int .i64 sn, .int .i64 n, .int .i64 v, .slice A m c] 24)) w') := refPart_any it _ hl
  have HW0 : Hid (∀ w2, Gr (w.alloc (.cells #[.int .i64 k, strc gt, strc it, .int .i64 ee, .int .i64 sn, .int .i64 n, .int .i64 v, .slice A m c] 24)) w2 → w2.cell? ⟨w.heap.size, 2, none⟩ = some (strc it)) := fun w2 g => by
    have hb := Blk.new w 24 #[.int .i64 k, strc gt, strc it, .int .i64 ee, .int .i64 sn, .int .i64 n, .int .i64 v, .slice A m c]
    rw [g.cell (p := ⟨w.heap.size, 2, none⟩) hb.lt, hb.cell]
    rfl
  cases hp : partL it with
  | true =>
    have HF : Hid (partT it = it) := if_pos hp
    rw [HF.out]
    rw [hp] at HC
    clear hp
    go_enter Tryd.func29, Tryd.ntmps29
    go_wp2_with fail
    refine HC.out.mono ?_
    rintro e w2 ⟨rfl, g2⟩
    have c1 := HW0.out w2 g2
    have G2 := Lib.hid g2; clear g2
    go_wp2_with fail
    go_ret
    exact ⟨rfl, (G0.out).trans G2.out⟩
  | false =>
    have HF : Hid (partT it = []) := if_neg (by rw [hp]; decide)
    rw [HF.out]
    rw [hp] at HC
    clear hp
    go_enter Tryd.func29, Tryd.ntmps29
    go_wp2_with fail
    refine HC.out.mono ?_
    rintro e w2 ⟨rfl, g2⟩
    have G2 := Lib.hid g2; clear g2
    go_wp2_with fail
    go_ret
    exact ⟨rfl, (G0.out).trans G2.out⟩
theorem refField_e (k : Int) (gt it : List UInt8) (ee sn n v : Int) (A : Option Addr) (m c : Nat) (w : World) (h0 : -9223372036854775808 ≤ ee) (h1 : ee ≤ 9223372036854775807) :
    Calls Tryd.prog 29 #[.agg #[.int .i64 k, strc gt, strc it, .int .i64 ee, .int .i64 sn, .int .i64 n, .int .i64 v, .slice A m c], .int .u8 101] w fun e w' => e = .returned (strc (countT ee)) ∧ Gr w w' := by
  have G0 : Hid (Gr w (w.alloc (.cells #[.int .i64 k, strc gt, strc it, .int .i64 ee, .int .i64 sn, .int .i64 n, .int .i64 v, .slice A m c] 24))) := Gr.alloc w _
  have HC : Hid (Calls Tryd.prog 60 #[.int .i64 ee] (w.alloc (.cells #[.int .i64 k, strc gt, strc it, .int .i64 ee, .int .i64 sn, .int .i64 n, .int .i64 v, .slice A m c] 24)) fun e w' => e = .returned (strc (countT ee)) ∧ Gr (w.alloc (.cells #[.int .i64 k, strc gt, strc it, .int .i64 ee, .int .i64 sn, .int .i64 n, .int .i64 v, .slice A m c] 24)) w') := refCount39_any ee _ h0 h1
  go_enter Tryd.func29, Tryd.ntmps29
  go_wp2_with fail
  refine HC.out.mono ?_
  rintro e w2 ⟨rfl, g2⟩
  have G2 := Lib.hid g2; clear g2
  go_wp2_with fail
  go_ret
  exact ⟨rfl, (G0.out).trans G2.out⟩
theorem refField_s (k : Int) (gt it : List UInt8) (ee sn n v : Int) (A : Option Addr) (m c : Nat) (w : World) (h0 : -9223372036854775808 ≤ sn) (h1 : sn ≤ 9223372036854775807) :
    Calls Tryd.prog 29 #[.agg #[.int .i64 k, strc gt, strc it, .int .i64 ee, .int .i64 sn, .int .i64 n, .int .i64 v, .slice A m c], .int .u8 115] w fun e w' => e = .returned (strc (countT sn)) ∧ Gr w w' := by
  have G0 : Hid (Gr w (w.alloc (.cells #[.int .i64 k, strc gt, strc it, .int .i64 ee, .int .i64 sn, .int .i64 n, .int .i64 v, .slice A m c] 24))) := Gr.alloc w _
  have HC : Hid (Calls Tryd.prog 60 #[.int .i64 sn] (w.alloc (.cells #[.int .i64 k, strc gt, strc it, .int .i64 ee, .int .i64 sn, .int .i64 n, .int .i64 v, .slice A m c] 24)) fun e w' => e = .returned (strc (countT sn)) ∧ Gr (w.alloc (.cells #[.int .i64 k, strc gt, strc it, .int .i64 ee, .int .i64 sn, .int .i64 n, .int .i64 v, .slice A m c] 24)) w') := refCount39_any sn _ h0 h1
  go_enter Tryd.func29, Tryd.ntmps29
  go_wp2_with fail
  refine HC.out.mono ?_
  rintro e w2 ⟨rfl, g2⟩
  have G2 := Lib.hid g2; clear g2
  go_wp2_with fail
  go_ret
  exact ⟨rfl, (G0.out).trans G2.out⟩
theorem refField_n (k : Int) (gt it : List UInt8) (ee sn n v : Int) (A : Option Addr) (m c : Nat) (w : World) (h0 : -9223372036854775808 ≤ n) (h1 : n ≤ 9223372036854775807) :
    Calls Tryd.prog 29 #[.agg #[.int .i64 k, strc gt, strc it, .int .i64 ee, .int .i64 sn, .int .i64 n, .int .i64 v, .slice A m c], .int .u8 110] w fun e w' => e = .returned (strc (countT n)) ∧ Gr w w' := by
  have G0 : Hid (Gr w (w.alloc (.cells #[.int .i64 k, strc gt, strc it, .int .i64 ee, .int .i64 sn, .int .i64 n, .int .i64 v, .slice A m c] 24))) := Gr.alloc w _
  have HC : Hid (Calls Tryd.prog 60 #[.int .i64 n] (w.alloc (.cells #[.int .i64 k, strc gt, strc it, .int .i64 ee, .int .i64 sn, .int .i64 n, .int .i64 v, .slice A m c] 24)) fun e w' => e = .returned (strc (countT n)) ∧ Gr (w.alloc (.cells #[.int .i64 k, strc gt, strc it, .int .i64 ee, .int .i64 sn, .int .i64 n, .int .i64 v, .slice A m c] 24)) w') := refCount39_any n _ h0 h1
  go_enter Tryd.func29, Tryd.ntmps29
  go_wp2_with fail
  refine HC.out.mono ?_
  rintro e w2 ⟨rfl, g2⟩
  have G2 := Lib.hid g2; clear g2
  go_wp2_with fail
  go_ret
  exact ⟨rfl, (G0.out).trans G2.out⟩
theorem refField_v (k : Int) (gt it : List UInt8) (ee sn n v : Int) (A : Option Addr) (m c : Nat) (w : World)  :
    Calls Tryd.prog 29 #[.agg #[.int .i64 k, strc gt, strc it, .int .i64 ee, .int .i64 sn, .int .i64 n, .int .i64 v, .slice A m c], .int .u8 118] w fun e w' => e = .returned (strc (sayT v)) ∧ Gr w w' := by
  have G0 : Hid (Gr w (w.alloc (.cells #[.int .i64 k, strc gt, strc it, .int .i64 ee, .int .i64 sn, .int .i64 n, .int .i64 v, .slice A m c] 24))) := Gr.alloc w _
  have HC : Hid (Calls Tryd.prog 61 #[.int .i64 v] (w.alloc (.cells #[.int .i64 k, strc gt, strc it, .int .i64 ee, .int .i64 sn, .int .i64 n, .int .i64 v, .slice A m c] 24)) fun e w' => e = .returned (strc (sayT v)) ∧ Gr (w.alloc (.cells #[.int .i64 k, strc gt, strc it, .int .i64 ee, .int .i64 sn, .int .i64 n, .int .i64 v, .slice A m c] 24)) w') := refSaid_any v _
  go_enter Tryd.func29, Tryd.ntmps29
  go_wp2_with fail
  refine HC.out.mono ?_
  rintro e w2 ⟨rfl, g2⟩
  have G2 := Lib.hid g2; clear g2
  go_wp2_with fail
  go_ret
  exact ⟨rfl, (G0.out).trans G2.out⟩
set_option maxRecDepth 100000 in
theorem refField_x (k : Int) (gt it : List UInt8) (ee sn n v : Int) (A : Option Addr) (m c : Nat) (w : World) (x : List UInt8) (hx : Bs w A m c x) (hl : x.length ≤ 100000) :
    Calls Tryd.prog 29 #[.agg #[.int .i64 k, strc gt, strc it, .int .i64 ee, .int .i64 sn, .int .i64 n, .int .i64 v, .slice A m c], .int .u8 120] w fun e w' => e = .returned (strc (if x.length = 32 then hexP x else [])) ∧ Gr w w' := by
  have G0 : Hid (Gr w (w.alloc (.cells #[.int .i64 k, strc gt, strc it, .int .i64 ee, .int .i64 sn, .int .i64 n, .int .i64 v, .slice A m c] 24))) := Gr.alloc w _
  have hml := hx.len
  have HHX := Lib.hid (refHexPrint_any A m c x _ (hx.mono G0.out) (by omega))
  clear hx
  by_cases h32 : m = 32
  · have t1 : ((m : Int) == 32) = true := beq_iff_eq.2 (by omega)
    have HF : Hid ((if x.length = 32 then hexP x else []) = hexP x) := if_pos (by omega)
    rw [HF.out]
    clear hml h32
    go_enter Tryd.func29, Tryd.ntmps29
    go_wp2_with fail
    refine HHX.out.mono ?_
    rintro e w2 ⟨rfl, g2⟩
    have G2 := Lib.hid g2; clear g2
    go_wp2_with fail
    go_ret
    exact ⟨rfl, (G0.out).trans G2.out⟩
  · have t1 : ((m : Int) == 32) = false := beq_eq_false_iff_ne.2 (by omega)
    have HF : Hid ((if x.length = 32 then hexP x else []) = []) := if_neg (by omega)
    rw [HF.out]
    clear hml h32
    go_enter Tryd.func29, Tryd.ntmps29
    go_wp2_with fail
    go_ret
    exact ⟨rfl, G0.out⟩
theorem refField_any (o : OpD) (A : Option Addr) (m c s : Nat) (w : World) (ho : OpOk o) (hx : Bs w A m c o.x) (hs : s = 103 ∨ s = 105 ∨ s = 101 ∨ s = 115 ∨ s = 110 ∨ s = 118 ∨ s = 120) :
    Calls Tryd.prog 29 #[opV o A m c, .int .u8 (s : Int)] w fun e w' => e = .returned (strc (fieldL o s)) ∧ Gr w w' := by
  rcases hs with rfl | rfl | rfl | rfl | rfl | rfl | rfl
  · exact refField_g _ _ _ _ _ _ _ _ _ _ _ ho.g
  · exact refField_i _ _ _ _ _ _ _ _ _ _ _ ho.i
  · exact refField_e _ _ _ _ _ _ _ _ _ _ _ ho.e.1 ho.e.2
  · exact refField_s _ _ _ _ _ _ _ _ _ _ _ ho.s.1 ho.s.2
  · exact refField_n _ _ _ _ _ _ _ _ _ _ _ ho.n.1 ho.n.2
  · exact refField_v _ _ _ _ _ _ _ _ _ _ _
  · exact refField_x _ _ _ _ _ _ _ _ _ _ _ _ hx ho.x
end Go.Proofs.YtadenlhnfkccaaaDoor
