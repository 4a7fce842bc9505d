/- What the rows' frames tell of acts that came in. No condition. -/
import Derived.Test.YthlnoaalhojphaaGreatDoorObOpenC
import Derived.Test.YthlnoaalhojphaaGreatDoorObTermJ
namespace Go.Proofs.YthlnoaalhojphaaGreatDoor
open Go.RowKit Go.ChangeShapes Go.WideShapes Go.Deep
set_option linter.unusedVariables false
/-- An act: a kind, two parts, a label. -/
structure Ac where
  k : Int
  a : Int
  b : Int
  s : ByteArray
instance : Inhabited Ac := ⟨⟨0, 0, 0, ByteArray.empty⟩⟩
def Ac.cells (x : Ac) : List Value := [.int .i64 x.k, .int .i64 x.a, .int .i64 x.b, .string x.s]
theorem Ac.cells_len (x : Ac) : x.cells.length = 4 := rfl
def In64 (n : Int) : Prop := -9223372036854775808 ≤ n ∧ n ≤ 9223372036854775807
def Ac.ok (x : Ac) : Prop := In64 x.k ∧ In64 x.a ∧ In64 x.b ∧ x.s.size ≤ maxLen
section
variable {H : Type} {enc : TypeId × Value → H} {P : Program} {W : World}
theorem open_acts {t e : TypeId} {f0 f1 f2 f3 : Field} {a : Option Addr} {len cap : Nat} {d : DataW H} {p : List MemPlace} (ht : P.underlying t = some (.slice e)) (he : P.underlying e = some (.struct #[f0, f1, f2, f3])) (hone : oneCellFields P #[f0, f1, f2, f3] = true) (hC : P.cellsOf e = 4)
    (h3 : P.underlying f3.type = some .string) (h0 : P.underlying f0.type = some (.int .i64)) (h1 : P.underlying f1.type = some (.int .i64)) (h2 : P.underlying f2.type = some (.int .i64))
    (h : DataW.Trod enc P W 0 (fun _ => true) true t (.slice a len cap) d p) : ∃ L : List Ac, Rs Ac.cells 4 W a len cap L ∧ ∀ x ∈ L, x.ok := by
  obtain ⟨fuel, hf⟩ := h
  obtain ⟨L, hl, hs, hg⟩ := open_elems (α := Ac) ht hC (by decide) hf Ac.cells Ac.cells_len Ac.ok (fun n cs z hlen hz => by
    obtain ⟨_, m, hfs⟩ := trod_fields he hone hC hz
    obtain ⟨v0, y0, e0, t0⟩ := hfs 0 f0 rfl
    obtain ⟨v1, y1, e1, t1⟩ := hfs 1 f1 rfl
    obtain ⟨v2, y2, e2, t2⟩ := hfs 2 f2 rfl
    obtain ⟨v3, y3, e3, t3⟩ := hfs 3 f3 rfl
    obtain ⟨n0, q0, _, b0⟩ := DataW.trod_int h0 t0
    obtain ⟨n1, q1, _, b1⟩ := DataW.trod_int h1 t1
    obtain ⟨n2, q2, _, b2⟩ := DataW.trod_int h2 t2
    obtain ⟨s3, q3, _, b3⟩ := DataW.trod_string h3 t3
    simp at q0 q1 q2 q3
    subst q0 q1 q2 q3
    refine ⟨⟨n0, n1, n2, s3⟩, ?_, ?_⟩
    · match cs, hlen with
      | [c0, c1, c2, c3], _ =>
        simp at e0 e1 e2 e3
        subst e0 e1 e2 e3
        rfl
    · exact ⟨bounds_i64 b0, bounds_i64 b1, bounds_i64 b2, b3⟩)
  exact ⟨L, ⟨hl, hs⟩, hg⟩
end
theorem Ac.row {w : World} {A : Option Addr} {n c : Nat} {L : List Ac} (h : Rs Ac.cells 4 w A n c L) {k : Nat} (hk : k < n) :
    ∃ b o x, A = some ⟨b, o, none⟩ ∧ L[k]? = some x ∧ w.cell? ⟨b, o + k * 4, none⟩ = some (.int .i64 x.k) ∧ w.cell? ⟨b, o + k * 4 + 1, none⟩ = some (.int .i64 x.a) ∧ w.cell? ⟨b, o + k * 4 + 2, none⟩ = some (.int .i64 x.b) ∧ w.cell? ⟨b, o + k * 4 + 3, none⟩ = some (.string x.s) := by
  obtain ⟨b, o, x, e, hx, hc⟩ := Rs.row h Ac.cells_len hk
  exact ⟨b, o, x, e, hx, hc 0 _ rfl, hc 1 _ rfl, hc 2 _ rfl, hc 3 _ rfl⟩
def lightA (L : List Ac) : Bool := decide (L.length ≤ 60) && L.all fun x => decide (x.s.size ≤ 40)
end Go.Proofs.YthlnoaalhojphaaGreatDoor
