/- What the rows' frames tell of commits that came in. No condition. -/
import Derived.Test.YthlnoaalhojphaaGreatDoorObOpen
import Derived.Test.YthlnoaalhojphaaGreatDoorObRowsS
namespace Go.Proofs.YthlnoaalhojphaaGreatDoor
open Go.RowKit Go.ChangeShapes Go.WideShapes Go.Deep
set_option linter.unusedVariables false
section
variable {H : Type} {enc : TypeId × Value → H} {P : Program} {W : World}
theorem str_of {s : ByteArray} : Value.string s = strV s.data.toList := rfl
theorem open_commits {t e : TypeId} {f0 f1 f2 : Field} {a : Option Addr} {len cap : Nat} {d : DataW H} {p : List MemPlace} (ht : P.underlying t = some (.slice e)) (he : P.underlying e = some (.struct #[f0, f1, f2])) (hone : oneCellFields P #[f0, f1, f2] = true) (hC : P.cellsOf e = 3)
    (h0 : P.underlying f0.type = some .string) (h1 : P.underlying f1.type = some (.int .i64)) (h2 : P.underlying f2.type = some .string)
    (h : DataW.Trod enc P W 0 (fun _ => true) true t (.slice a len cap) d p) : ∃ L : List Cm, Rs Cm.cells 3 W a len cap L ∧ ∀ x ∈ L, x.ok := by
  obtain ⟨fuel, hf⟩ := h
  obtain ⟨L, hl, hs, hg⟩ := open_elems (α := Cm) ht hC (by decide) hf Cm.cells Cm.cells_len Cm.ok (fun n cs z hlen hz => by
    obtain ⟨_, m, hfs⟩ := trod_fields he hone hC hz
    obtain ⟨v0, y0, e0, t0⟩ := hfs 0 f0 rfl
    obtain ⟨v1, y1, e1, t1⟩ := hfs 1 f1 rfl
    obtain ⟨v2, y2, e2, t2⟩ := hfs 2 f2 rfl
    obtain ⟨s0, q0, _, b0⟩ := DataW.trod_string h0 t0
    obtain ⟨n1, q1, _, b1⟩ := DataW.trod_int h1 t1
    obtain ⟨s2, q2, _, b2⟩ := DataW.trod_string h2 t2
    simp at q0 q1 q2
    subst q0 q1 q2
    refine ⟨⟨s0.data.toList, n1, s2.data.toList⟩, ?_, ?_⟩
    · match cs, hlen with
      | [c0, c1, c2], _ =>
        simp at e0 e1 e2
        subst e0 e1 e2
        rfl
    · have := bounds_i64 b1
      unfold maxLen at b0 b2
      exact ⟨b0, b2, this.1, this.2⟩)
  exact ⟨L, ⟨hl, hs⟩, hg⟩
end
end Go.Proofs.YthlnoaalhojphaaGreatDoor
