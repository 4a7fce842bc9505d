/- Operations as lines: fields. No condition. -/
import Derived.Test.YtadenlhnfkccaaaDoorObOpA
import Derived.Outline
namespace Go.Proofs.YtadenlhnfkccaaaDoor
open Go.RowKit
set_option linter.unusedVariables false
set_option linter.unusedSimpArgs false
/-- An operation's cells. -/
def opC (o : OpD) (A : Option Addr) (m c : Nat) : Array Value := #[.int .i64 o.k, strc o.g, strc o.i, .int .i64 o.e, .int .i64 o.s, .int .i64 o.n, .int .i64 o.v, .slice A m c]
def opV (o : OpD) (A : Option Addr) (m c : Nat) : Value := .agg (opC o A m c)
/-- What an operation's numbers and texts keep to. -/
structure OpOk (o : OpD) : Prop where
  k : -9223372036854775808 ≤ o.k ∧ o.k ≤ 9223372036854775807
  e : -9223372036854775808 ≤ o.e ∧ o.e ≤ 9223372036854775807
  s : -9223372036854775808 ≤ o.s ∧ o.s ≤ 9223372036854775807
  n : -9223372036854775808 ≤ o.n ∧ o.n ≤ 9223372036854775807
  v : -9223372036854775808 ≤ o.v ∧ o.v ≤ 9223372036854775807
  g : o.g.length ≤ 100000
  i : o.i.length ≤ 100000
  x : o.x.length ≤ 100000
theorem field_g (k : Int) (gt it : List UInt8) (ee sn n v : Int) (A : Option Addr) (m c : Nat) (w : World) (hl : gt.length ≤ 100000) :
    Calls Tryd.prog 25 #[.agg #[.int .i64 k, strc gt, strc it, .int .i64 ee, .int .i64 sn, .int .i64 n, .int .i64 v, .slice A m c], .int .i32 103] w fun e w' => e = .returned (strc (partT gt)) ∧ Gr w w' := by
  have G0 : Hid (Gr w (w.alloc (.cells #[.int .i64 k, strc gt, strc it, .int .i64 ee, .int .i64 sn, .int .i64 n, .int .i64 v, .slice A m c] 24))) := Gr.alloc w _
  have HC : Hid (Calls Tryd.prog 40 #[strc gt] (w.alloc (.cells #[.int .i64 k, strc gt, strc it, .int .i64 ee, .int .i64 sn, .int .i64 n, .int .i64 v, .slice A m c] 24)) fun e w' => e = .returned (strc (partT gt)) ∧ Gr (w.alloc (.cells #[.int .i64 k, strc gt, strc it, .int .i64 ee, .int .i64 sn, .int .i64 n, .int .i64 v, .slice A m c] 24)) w') := opPart_any gt _ hl
  go_enter Tryd.func25, Tryd.ntmps25
  go_wp2_with fail
  refine HC.out.mono ?_
  rintro e w2 ⟨rfl, g2⟩
  have G2 := Lib.hid g2; clear g2
  go_wp2_with fail
  go_ret
  exact ⟨rfl, (G0.out).trans G2.out⟩
theorem field_i (k : Int) (gt it : List UInt8) (ee sn n v : Int) (A : Option Addr) (m c : Nat) (w : World) (hl : it.length ≤ 100000) :
    Calls Tryd.prog 25 #[.agg #[.int .i64 k, strc gt, strc it, .int .i64 ee, .int .i64 sn, .int .i64 n, .int .i64 v, .slice A m c], .int .i32 105] w fun e w' => e = .returned (strc (partT it)) ∧ Gr w w' := by
  have G0 : Hid (Gr w (w.alloc (.cells #[.int .i64 k, strc gt, strc it, .int .i64 ee, .int .i64 sn, .int .i64 n, .int .i64 v, .slice A m c] 24))) := Gr.alloc w _
  have HC : Hid (Calls Tryd.prog 40 #[strc it] (w.alloc (.cells #[.int .i64 k, strc gt, strc it, .int .i64 ee, .int .i64 sn, .int .i64 n, .int .i64 v, .slice A m c] 24)) fun e w' => e = .returned (strc (partT it)) ∧ Gr (w.alloc (.cells #[.int .i64 k, strc gt, strc it, .int .i64 ee, .int .i64 sn, .int .i64 n, .int .i64 v, .slice A m c] 24)) w') := opPart_any it _ hl
  go_enter Tryd.func25, Tryd.ntmps25
  go_wp2_with fail
  refine HC.out.mono ?_
  rintro e w2 ⟨rfl, g2⟩
  have G2 := Lib.hid g2; clear g2
  go_wp2_with fail
  go_ret
  exact ⟨rfl, (G0.out).trans G2.out⟩
theorem field_e (k : Int) (gt it : List UInt8) (ee sn n v : Int) (A : Option Addr) (m c : Nat) (w : World) (h0 : -9223372036854775808 ≤ ee) (h1 : ee ≤ 9223372036854775807) (hT : Pow10 w) :
    Calls Tryd.prog 25 #[.agg #[.int .i64 k, strc gt, strc it, .int .i64 ee, .int .i64 sn, .int .i64 n, .int .i64 v, .slice A m c], .int .i32 101] w fun e w' => e = .returned (strc (countT ee)) ∧ Gr w w' := by
  have G0 : Hid (Gr w (w.alloc (.cells #[.int .i64 k, strc gt, strc it, .int .i64 ee, .int .i64 sn, .int .i64 n, .int .i64 v, .slice A m c] 24))) := Gr.alloc w _
  have HC : Hid (Calls Tryd.prog 38 #[.int .i64 ee] (w.alloc (.cells #[.int .i64 k, strc gt, strc it, .int .i64 ee, .int .i64 sn, .int .i64 n, .int .i64 v, .slice A m c] 24)) fun e w' => e = .returned (strc (countT ee)) ∧ Gr (w.alloc (.cells #[.int .i64 k, strc gt, strc it, .int .i64 ee, .int .i64 sn, .int .i64 n, .int .i64 v, .slice A m c] 24)) w') := count_any ee _ h0 h1 (hT.mono (Gr.alloc w _))
  go_enter Tryd.func25, Tryd.ntmps25
  go_wp2_with fail
  refine HC.out.mono ?_
  rintro e w2 ⟨rfl, g2⟩
  have G2 := Lib.hid g2; clear g2
  go_wp2_with fail
  go_ret
  exact ⟨rfl, (G0.out).trans G2.out⟩
theorem field_s (k : Int) (gt it : List UInt8) (ee sn n v : Int) (A : Option Addr) (m c : Nat) (w : World) (h0 : -9223372036854775808 ≤ sn) (h1 : sn ≤ 9223372036854775807) (hT : Pow10 w) :
    Calls Tryd.prog 25 #[.agg #[.int .i64 k, strc gt, strc it, .int .i64 ee, .int .i64 sn, .int .i64 n, .int .i64 v, .slice A m c], .int .i32 115] w fun e w' => e = .returned (strc (countT sn)) ∧ Gr w w' := by
  have G0 : Hid (Gr w (w.alloc (.cells #[.int .i64 k, strc gt, strc it, .int .i64 ee, .int .i64 sn, .int .i64 n, .int .i64 v, .slice A m c] 24))) := Gr.alloc w _
  have HC : Hid (Calls Tryd.prog 38 #[.int .i64 sn] (w.alloc (.cells #[.int .i64 k, strc gt, strc it, .int .i64 ee, .int .i64 sn, .int .i64 n, .int .i64 v, .slice A m c] 24)) fun e w' => e = .returned (strc (countT sn)) ∧ Gr (w.alloc (.cells #[.int .i64 k, strc gt, strc it, .int .i64 ee, .int .i64 sn, .int .i64 n, .int .i64 v, .slice A m c] 24)) w') := count_any sn _ h0 h1 (hT.mono (Gr.alloc w _))
  go_enter Tryd.func25, Tryd.ntmps25
  go_wp2_with fail
  refine HC.out.mono ?_
  rintro e w2 ⟨rfl, g2⟩
  have G2 := Lib.hid g2; clear g2
  go_wp2_with fail
  go_ret
  exact ⟨rfl, (G0.out).trans G2.out⟩
theorem field_n (k : Int) (gt it : List UInt8) (ee sn n v : Int) (A : Option Addr) (m c : Nat) (w : World) (h0 : -9223372036854775808 ≤ n) (h1 : n ≤ 9223372036854775807) (hT : Pow10 w) :
    Calls Tryd.prog 25 #[.agg #[.int .i64 k, strc gt, strc it, .int .i64 ee, .int .i64 sn, .int .i64 n, .int .i64 v, .slice A m c], .int .i32 110] w fun e w' => e = .returned (strc (countT n)) ∧ Gr w w' := by
  have G0 : Hid (Gr w (w.alloc (.cells #[.int .i64 k, strc gt, strc it, .int .i64 ee, .int .i64 sn, .int .i64 n, .int .i64 v, .slice A m c] 24))) := Gr.alloc w _
  have HC : Hid (Calls Tryd.prog 38 #[.int .i64 n] (w.alloc (.cells #[.int .i64 k, strc gt, strc it, .int .i64 ee, .int .i64 sn, .int .i64 n, .int .i64 v, .slice A m c] 24)) fun e w' => e = .returned (strc (countT n)) ∧ Gr (w.alloc (.cells #[.int .i64 k, strc gt, strc it, .int .i64 ee, .int .i64 sn, .int .i64 n, .int .i64 v, .slice A m c] 24)) w') := count_any n _ h0 h1 (hT.mono (Gr.alloc w _))
  go_enter Tryd.func25, Tryd.ntmps25
  go_wp2_with fail
  refine HC.out.mono ?_
  rintro e w2 ⟨rfl, g2⟩
  have G2 := Lib.hid g2; clear g2
  go_wp2_with fail
  go_ret
  exact ⟨rfl, (G0.out).trans G2.out⟩
set_option maxRecDepth 100000 in
theorem field_v (k : Int) (gt it : List UInt8) (ee sn n v : Int) (A : Option Addr) (m c : Nat) (w : World) :
    Calls Tryd.prog 25 #[.agg #[.int .i64 k, strc gt, strc it, .int .i64 ee, .int .i64 sn, .int .i64 n, .int .i64 v, .slice A m c], .int .i32 118] w fun e w' => e = .returned (strc (sayT v)) ∧ Gr w w' := by
  have G0 : Hid (Gr w (w.alloc (.cells #[.int .i64 k, strc gt, strc it, .int .i64 ee, .int .i64 sn, .int .i64 n, .int .i64 v, .slice A m c] 24))) := Gr.alloc w _
  have HSY := Lib.hid (sayings_any (w.alloc (.cells #[.int .i64 k, strc gt, strc it, .int .i64 ee, .int .i64 sn, .int .i64 n, .int .i64 v, .slice A m c] 24)))
  have HW0 : Hid (∀ w2, Gr (w.alloc (.cells #[.int .i64 k, strc gt, strc it, .int .i64 ee, .int .i64 sn, .int .i64 n, .int .i64 v, .slice A m c] 24)) w2 → w2.cell? ⟨w.heap.size, 6, none⟩ = some (.int .i64 v)) := fun w2 g => by
    have hb := Blk.new w 24 #[.int .i64 k, strc gt, strc it, .int .i64 ee, .int .i64 sn, .int .i64 n, .int .i64 v, .slice A m c]
    rw [g.cell (p := ⟨w.heap.size, 6, none⟩) hb.lt, hb.cell]
    rfl
  unfold sayCells at *
  by_cases h1 : 0 < v
  · by_cases h4 : v < 4
    · rcases show v = 1 ∨ v = 2 ∨ v = 3 by omega with rfl | rfl | rfl
      all_goals
        clear h1 h4
        go_enter Tryd.func25, Tryd.ntmps25
        go_wp2_with fail
        refine HSY.out.mono ?_
        rintro e w2 ⟨rfl, g2⟩
        have c6 := HW0.out (w2.alloc (.cells #[.string ⟨#[]⟩, .string ⟨#[97, 99, 99, 101, 112, 116, 101, 100]⟩, .string ⟨#[111, 116, 104, 101, 114]⟩, .string ⟨#[110, 111, 116, 104, 105, 110, 103]⟩] 116)) (g2.trans (Gr.alloc _ _))
        have G2 := Lib.hid g2; clear g2
        go_wp2_with fail
        go_ret
        exact ⟨rfl, ((G0.out).trans G2.out).trans (Gr.alloc _ _)⟩
    · have t1 : decide (0 < v) = true := decide_eq_true h1
      have t4 : decide (v < 4) = false := decide_eq_false h4
      have HF : Hid (sayT v = []) := by show _ = _; unfold sayT; rw [if_neg (by omega), if_neg (by omega), if_neg (by omega)]
      go_enter Tryd.func25, Tryd.ntmps25
      go_wp2_with fail
      refine HSY.out.mono ?_
      rintro e w2 ⟨rfl, g2⟩
      have c6 := HW0.out (w2.alloc (.cells #[.string ⟨#[]⟩, .string ⟨#[97, 99, 99, 101, 112, 116, 101, 100]⟩, .string ⟨#[111, 116, 104, 101, 114]⟩, .string ⟨#[110, 111, 116, 104, 105, 110, 103]⟩] 116)) (g2.trans (Gr.alloc _ _))
      have G2 := Lib.hid g2; clear g2
      go_wp2_with fail
      go_ret
      exact ⟨by rw [HF.out]; rfl, ((G0.out).trans G2.out).trans (Gr.alloc _ _)⟩
  · have t1 : decide (0 < v) = false := decide_eq_false h1
    have HF : Hid (sayT v = []) := by show _ = _; unfold sayT; rw [if_neg (by omega), if_neg (by omega), if_neg (by omega)]
    go_enter Tryd.func25, Tryd.ntmps25
    go_wp2_with fail
    refine HSY.out.mono ?_
    rintro e w2 ⟨rfl, g2⟩
    have c6 := HW0.out (w2.alloc (.cells #[.string ⟨#[]⟩, .string ⟨#[97, 99, 99, 101, 112, 116, 101, 100]⟩, .string ⟨#[111, 116, 104, 101, 114]⟩, .string ⟨#[110, 111, 116, 104, 105, 110, 103]⟩] 116)) (g2.trans (Gr.alloc _ _))
    have G2 := Lib.hid g2; clear g2
    go_wp2_with fail
    go_ret
    exact ⟨by rw [HF.out]; rfl, ((G0.out).trans G2.out).trans (Gr.alloc _ _)⟩
set_option maxRecDepth 100000 in
theorem field_x (k : Int) (gt it : List UInt8) (ee sn n v : Int) (A : Option Addr) (m c : Nat) (w : World) (x : List UInt8) (hx : Bs w A m c x) (hl : x.length ≤ 100000) :
    Calls Tryd.prog 25 #[.agg #[.int .i64 k, strc gt, strc it, .int .i64 ee, .int .i64 sn, .int .i64 n, .int .i64 v, .slice A m c], .int .i32 120] w fun e w' => e = .returned (strc (if x.length = 32 then hexP x else [])) ∧ Gr w w' := by
  have G0 : Hid (Gr w (w.alloc (.cells #[.int .i64 k, strc gt, strc it, .int .i64 ee, .int .i64 sn, .int .i64 n, .int .i64 v, .slice A m c] 24))) := Gr.alloc w _
  have hml := hx.len
  have HHX := Lib.hid (hexPrint_any A m c x _ (hx.mono G0.out) (by omega))
  clear hx
  by_cases h32 : m = 32
  · have t1 : ((m : Int) == 32) = true := beq_iff_eq.2 (by omega)
    have HF : Hid ((if x.length = 32 then hexP x else []) = hexP x) := if_pos (by omega)
    rw [HF.out]
    clear hml h32
    go_enter Tryd.func25, Tryd.ntmps25
    go_wp2_with fail
    refine HHX.out.mono ?_
    rintro e w2 ⟨rfl, g2⟩
    have G2 := Lib.hid g2; clear g2
    go_wp2_with fail
    go_ret
    exact ⟨rfl, (G0.out).trans G2.out⟩
  · have t1 : ((m : Int) == 32) = false := beq_eq_false_iff_ne.2 (by omega)
    have HF : Hid ((if x.length = 32 then hexP x else []) = []) := if_neg (by omega)
    rw [HF.out]
    clear hml h32
    go_enter Tryd.func25, Tryd.ntmps25
    go_wp2_with fail
    go_ret
    exact ⟨rfl, G0.out⟩
theorem field_any (o : OpD) (A : Option Addr) (m c s : Nat) (w : World) (ho : OpOk o) (hx : Bs w A m c o.x) (hT : Pow10 w) (hs : s = 103 ∨ s = 105 ∨ s = 101 ∨ s = 115 ∨ s = 110 ∨ s = 118 ∨ s = 120) :
    Calls Tryd.prog 25 #[opV o A m c, .int .i32 (s : Int)] w fun e w' => e = .returned (strc (fieldL o s)) ∧ Gr w w' := by
  rcases hs with rfl | rfl | rfl | rfl | rfl | rfl | rfl
  · exact field_g _ _ _ _ _ _ _ _ _ _ _ ho.g
  · exact field_i _ _ _ _ _ _ _ _ _ _ _ ho.i
  · exact field_e _ _ _ _ _ _ _ _ _ _ _ ho.e.1 ho.e.2 hT
  · exact field_s _ _ _ _ _ _ _ _ _ _ _ ho.s.1 ho.s.2 hT
  · exact field_n _ _ _ _ _ _ _ _ _ _ _ ho.n.1 ho.n.2 hT
  · exact field_v _ _ _ _ _ _ _ _ _ _ _
  · exact field_x _ _ _ _ _ _ _ _ _ _ _ _ hx ho.x
end Go.Proofs.YtadenlhnfkccaaaDoor
