/- What the rows' frames tell of a chain of keys that came in. No condition. -/
import Derived.Test.YtbmijjodpdbbmaaDoorObOpenW
import Derived.Lib.SmallJoins
namespace Go.Proofs.YtbmijjodpdbbmaaDoor
open Go.RowKit Go.ChangeShapes Go.WideShapes Go.Deep
set_option linter.unusedVariables false
section
variable {H : Type} {enc : TypeId × Value → H} {P : Program} {W : World}
theorem open_chain {r : Reach} {b0 : Nat} {t s b : TypeId} {f0 f1 f2 g0 g1 : Field} {v : Value} {d : DataW H} {p : List MemPlace} (ht : P.underlying t = some (.struct #[f0, f1, f2])) (hone : oneCellFields P #[f0, f1, f2] = true) (hC : P.cellsOf t = 3)
    (h0 : P.underlying f0.type = some (.int .i64)) (h1 : P.underlying f1.type = some (.slice b)) (hb : P.underlying b = some (.int .u8)) (hcb : P.cellsOf b = 1)
    (h2 : P.underlying f2.type = some (.slice s)) (hs : P.underlying s = some (.struct #[g0, g1])) (hsone : oneCellFields P #[g0, g1] = true) (hsC : P.cellsOf s = 2) (k0 : P.underlying g0.type = some (.int .i64)) (k1 : P.underlying g1.type = some (.slice b))
    (hv : Value.okWide P W r b0 t v) (h : DataW.Trod enc P W 0 (fun _ => true) true t v d p) :
    ∃ (p0 : Int) (A B : Option Addr) (n c m k : Nat) (cur : List UInt8) (L : List Wr), v = .agg #[.int .i64 p0, .slice A n c, .slice B m k] ∧ -9223372036854775808 ≤ p0 ∧ p0 ≤ 9223372036854775807 ∧ Bs W A n c cur ∧ Wrs W B m k L := by
  obtain ⟨v0, v1, v2, y0, y1, y2, fuel, rfl, _, _, t0, t1, t2⟩ := Go.Joins.open_agg3 ht hone hC hv h
  obtain ⟨n0, q0, _, b0⟩ := DataW.trod_int h0 t0
  obtain ⟨A, n, c, q1⟩ := Go.Joins.slice_form h1 t1
  obtain ⟨B, m, k, q2⟩ := Go.Joins.slice_form h2 t2
  simp at q0 q1 q2
  subst q0 q1 q2
  obtain ⟨cur, hcur⟩ := open_bytes' h1 hb hcb t1
  obtain ⟨L, hL⟩ := open_writes (enc := enc) (d := y2.1) (p := y2.2) h2 hs hsone hsC k0 k1 hb hcb ⟨fuel, t2⟩
  exact ⟨n0, A, B, n, c, m, k, cur, L, rfl, (bounds_i64 b0).1, (bounds_i64 b0).2, hcur, hL⟩
end
end Go.Proofs.YtbmijjodpdbbmaaDoor
