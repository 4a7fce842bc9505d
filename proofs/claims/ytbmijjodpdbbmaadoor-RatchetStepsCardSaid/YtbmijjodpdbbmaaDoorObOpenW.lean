/- What the rows' frames tell of writes that came in. No condition. -/
import Derived.Test.YtbmijjodpdbbmaaDoorObOpen
import Derived.Test.YtbmijjodpdbbmaaDoorObImageW
namespace Go.Proofs.YtbmijjodpdbbmaaDoor
open Go.RowKit Go.ChangeShapes Go.WideShapes Go.Deep
set_option linter.unusedVariables false
section
variable {H : Type} {enc : TypeId × Value → H} {P : Program} {W : World}
theorem open_writes {t e b : TypeId} {f0 f1 : Field} {a : Option Addr} {len cap : Nat} {d : DataW H} {p : List MemPlace} (ht : P.underlying t = some (.slice e)) (he : P.underlying e = some (.struct #[f0, f1])) (hone : oneCellFields P #[f0, f1] = true) (hC : P.cellsOf e = 2)
    (h0 : P.underlying f0.type = some (.int .i64)) (h1 : P.underlying f1.type = some (.slice b)) (hb : P.underlying b = some (.int .u8)) (hcb : P.cellsOf b = 1)
    (h : DataW.Trod enc P W 0 (fun _ => true) true t (.slice a len cap) d p) : ∃ L : List Wr, Wrs W a len cap L := by
  obtain ⟨fuel, hf⟩ := h
  obtain ⟨L, hl, hs, hg⟩ := open_elems (α := Wr) ht hC (by decide) hf Wr.cells Wr.cells_len (fun x => Bs W x.r.a x.r.n x.r.c x.r.l ∧ -9223372036854775808 ≤ x.p ∧ x.p ≤ 9223372036854775807) (fun n cs z hlen hz => by
    obtain ⟨_, m, hfs⟩ := trod_fields he hone hC hz
    obtain ⟨v0, y0, e0, t0⟩ := hfs 0 f0 rfl
    obtain ⟨v1, y1, e1, t1⟩ := hfs 1 f1 rfl
    obtain ⟨n0, q0, _, b0⟩ := DataW.trod_int h0 t0
    obtain ⟨a', l', c', q1⟩ := Go.Joins.slice_form h1 t1
    simp at q0 q1
    subst q0 q1
    obtain ⟨l, hl⟩ := open_bytes' h1 hb hcb t1
    refine ⟨⟨n0, ⟨a', l', c', l⟩⟩, ?_, hl, bounds_i64 b0⟩
    match cs, hlen with
    | [c0, c1], _ =>
      simp at e0 e1
      subst e0 e1
      rfl)
  exact ⟨L, hl, hs, hg⟩
end
end Go.Proofs.YtbmijjodpdbbmaaDoor
