/- What the rows' frames tell of an operation that came in, and of an answer. No condition. -/
import Derived.Test.YtadenlhnfkccaaaDoorObOpL
import Derived.Test.YtadenlhnfkccaaaDoorObOpB
import Derived.Test.YtadenlhnfkccaaaDoorObOqL
import Derived.Test.YtadenlhnfkccaaaDoorObOpen
import Derived.Test.YtadenlhnfkccaaaDoorObInts
import Derived.Lib.SmallJoins
namespace Go.Proofs.YtadenlhnfkccaaaDoor
open Go.RowKit Go.ChangeShapes Go.WideShapes Go.Deep
set_option linter.unusedVariables false
/-- What an operation's numbers keep to. -/
structure OpNum (o : OpD) : Prop where
  k : -9223372036854775808 ≤ o.k ∧ o.k ≤ 9223372036854775807
  e : -9223372036854775808 ≤ o.e ∧ o.e ≤ 9223372036854775807
  s : -9223372036854775808 ≤ o.s ∧ o.s ≤ 9223372036854775807
  n : -9223372036854775808 ≤ o.n ∧ o.n ≤ 9223372036854775807
  v : -9223372036854775808 ≤ o.v ∧ o.v ≤ 9223372036854775807
theorem OpNum.ok {o : OpD} (h : OpNum o) (hl : lightO o = true) : OpOk o := by
  unfold lightO at hl
  simp only [Bool.and_eq_true, decide_eq_true_eq] at hl
  exact ⟨h.k, h.e, h.s, h.n, h.v, by omega, by omega, by omega⟩
section
variable {H : Type} {enc : TypeId × Value → H} {P : Program} {W : World}
theorem open_op {r : Reach} {b0 : Nat} {t b : TypeId} {f0 f1 f2 f3 f4 f5 f6 f7 : Field} {v : Value} {d : DataW H} {p : List MemPlace} (ht : P.underlying t = some (.struct #[f0, f1, f2, f3, f4, f5, f6, f7])) (hone : oneCellFields P #[f0, f1, f2, f3, f4, f5, f6, f7] = true) (hC : P.cellsOf t = 8)
    (h0 : P.underlying f0.type = some (.int .i64)) (h1 : P.underlying f1.type = some .string) (h2 : P.underlying f2.type = some .string) (h3 : P.underlying f3.type = some (.int .i64)) (h4 : P.underlying f4.type = some (.int .i64)) (h5 : P.underlying f5.type = some (.int .i64)) (h6 : P.underlying f6.type = some (.int .i64))
    (h7 : P.underlying f7.type = some (.slice b)) (hb : P.underlying b = some (.int .u8)) (hcb : P.cellsOf b = 1)
    (hv : Value.okWide P W r b0 t v) (h : DataW.Trod enc P W 0 (fun _ => true) true t v d p) :
    ∃ (o : OpD) (A : Option Addr) (m c : Nat), v = opV o A m c ∧ OpNum o ∧ Bs W A m c o.x := by
  obtain ⟨cs, rfl, hsz⟩ := okWide_struct ht hv
  obtain ⟨fuel, hf⟩ := h
  obtain ⟨_, m, hfs⟩ := trod_fields (cs := cs.toList) ht hone hC hf
  obtain ⟨v0, y0, e0, t0⟩ := hfs 0 f0 rfl
  obtain ⟨v1, y1, e1, t1⟩ := hfs 1 f1 rfl
  obtain ⟨v2, y2, e2, t2⟩ := hfs 2 f2 rfl
  obtain ⟨v3, y3, e3, t3⟩ := hfs 3 f3 rfl
  obtain ⟨v4, y4, e4, t4⟩ := hfs 4 f4 rfl
  obtain ⟨v5, y5, e5, t5⟩ := hfs 5 f5 rfl
  obtain ⟨v6, y6, e6, t6⟩ := hfs 6 f6 rfl
  obtain ⟨v7, y7, e7, t7⟩ := hfs 7 f7 rfl
  obtain ⟨n0, q0, _, b0⟩ := DataW.trod_int h0 t0
  obtain ⟨s1, q1, _, b1⟩ := DataW.trod_string h1 t1
  obtain ⟨s2, q2, _, b2⟩ := DataW.trod_string h2 t2
  obtain ⟨n3, q3, _, b3⟩ := DataW.trod_int h3 t3
  obtain ⟨n4, q4, _, b4⟩ := DataW.trod_int h4 t4
  obtain ⟨n5, q5, _, b5⟩ := DataW.trod_int h5 t5
  obtain ⟨n6, q6, _, b6⟩ := DataW.trod_int h6 t6
  obtain ⟨A, m7, c7, q7⟩ := Go.Joins.slice_form h7 t7
  simp at q0 q1 q2 q3 q4 q5 q6 q7
  subst q0 q1 q2 q3 q4 q5 q6 q7
  obtain ⟨x, hx⟩ := open_bytes' h7 hb hcb t7
  refine ⟨⟨n0, s1.data.toList, s2.data.toList, n3, n4, n5, n6, x⟩, A, m7, c7, ?_, ⟨bounds_i64 b0, bounds_i64 b3, bounds_i64 b4, bounds_i64 b5, bounds_i64 b6⟩, hx⟩
  unfold opV opC
  congr 1
  apply Array.toList_inj.1
  have hl : cs.toList.length = 8 := by rw [Array.length_toList, hsz, hC]
  match hcs : cs.toList, hl with
  | [c0, c1, c2, c3, c4, c5, c6, c7], _ =>
    rw [hcs] at e0 e1 e2 e3 e4 e5 e6 e7
    simp at e0 e1 e2 e3 e4 e5 e6 e7
    subst e0 e1 e2 e3 e4 e5 e6 e7
    rfl
/-- An answer that came in. -/
theorem open_an {r : Reach} {b0 : Nat} {t b s : TypeId} {f0 f1 f2 f3 : Field} {v : Value} {d : DataW H} {p : List MemPlace} (ht : P.underlying t = some (.struct #[f0, f1, f2, f3])) (hone : oneCellFields P #[f0, f1, f2, f3] = true) (hC : P.cellsOf t = 4)
    (h0 : P.underlying f0.type = some (.int .i64)) (h1 : P.underlying f1.type = some (.slice b)) (hb : P.underlying b = some (.int .u8)) (hcb : P.cellsOf b = 1) (h2 : P.underlying f2.type = some (.slice s)) (hs : P.underlying s = some (.int .i64)) (hcs : P.cellsOf s = 1) (h3 : P.underlying f3.type = some .string)
    (hv : Value.okWide P W r b0 t v) (h : DataW.Trod enc P W 0 (fun _ => true) true t v d p) :
    ∃ (a : AnD) (A : Option Addr) (m c : Nat) (B : Option Addr) (p q : Nat), v = .agg (anC a A m c B p q) ∧ (-9223372036854775808 ≤ a.f ∧ a.f ≤ 9223372036854775807) ∧ Fits a.n ∧ Bs W A m c a.b ∧ Is W B p q a.n := by
  obtain ⟨v0, v1, v2, v3, y0, y1, y2, y3, fuel, rfl, _, _, t0, t1, t2, t3⟩ := Go.Joins.open_agg4 ht hone hC hv h
  obtain ⟨n0, q0, _, b0⟩ := DataW.trod_int h0 t0
  obtain ⟨A, m, c, q1⟩ := Go.Joins.slice_form h1 t1
  obtain ⟨B, p, q, q2⟩ := Go.Joins.slice_form h2 t2
  obtain ⟨s3, q3, _, _⟩ := DataW.trod_string h3 t3
  simp at q0 q1 q2 q3
  subst q0 q1 q2 q3
  obtain ⟨x, hx⟩ := open_bytes' h1 hb hcb t1
  obtain ⟨L, hL, hf⟩ := open_nums (enc := enc) (d := y2.1) (p := y2.2) h2 hs hcs ⟨fuel, t2⟩
  exact ⟨⟨n0, x, L, s3.data.toList⟩, A, m, c, B, p, q, rfl, bounds_i64 b0, hf, hx, hL⟩
end
end Go.Proofs.YtadenlhnfkccaaaDoor
