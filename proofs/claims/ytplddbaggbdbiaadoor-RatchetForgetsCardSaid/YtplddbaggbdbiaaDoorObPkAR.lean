/- Own texts of this claim, one behind the other. No condition. -/
import Derived.Test.YtplddbaggbdbiaaDoorObPkAQ
import Derived.Outline
import Derived.Laws.StructEq
import Derived.Deep.QuietTactic
import Derived.BigQuiet

/- What the rows' frames tell of acts that came in. No condition. -/
namespace Go.Proofs.YtplddbaggbdbiaaDoor
open Go.RowKit Go.ChangeShapes Go.WideShapes Go.Deep
set_option linter.unusedVariables false
/-- An act: a kind, two parts, a label. -/
structure Ac where
  k : Int
  a : Int
  b : Int
  s : ByteArray
instance : Inhabited Ac := ⟨⟨0, 0, 0, ByteArray.empty⟩⟩
def Ac.cells (x : Ac) : List Value := [.int .i64 x.k, .int .i64 x.a, .int .i64 x.b, .string x.s]
theorem Ac.cells_len (x : Ac) : x.cells.length = 4 := rfl
def In64 (n : Int) : Prop := -9223372036854775808 ≤ n ∧ n ≤ 9223372036854775807
def Ac.ok (x : Ac) : Prop := In64 x.k ∧ In64 x.a ∧ In64 x.b ∧ x.s.size ≤ maxLen
section
variable {H : Type} {enc : TypeId × Value → H} {P : Program} {W : World}
theorem open_acts {t e : TypeId} {f0 f1 f2 f3 : Field} {a : Option Addr} {len cap : Nat} {d : DataW H} {p : List MemPlace} (ht : P.underlying t = some (.slice e)) (he : P.underlying e = some (.struct #[f0, f1, f2, f3])) (hone : oneCellFields P #[f0, f1, f2, f3] = true) (hC : P.cellsOf e = 4)
    (h3 : P.underlying f3.type = some .string) (h0 : P.underlying f0.type = some (.int .i64)) (h1 : P.underlying f1.type = some (.int .i64)) (h2 : P.underlying f2.type = some (.int .i64))
    (h : DataW.Trod enc P W 0 (fun _ => true) true t (.slice a len cap) d p) : ∃ L : List Ac, Rs Ac.cells 4 W a len cap L ∧ ∀ x ∈ L, x.ok := by
  obtain ⟨fuel, hf⟩ := h
  obtain ⟨L, hl, hs, hg⟩ := open_elems (α := Ac) ht hC (by decide) hf Ac.cells Ac.cells_len Ac.ok (fun n cs z hlen hz => by
    obtain ⟨_, m, hfs⟩ := trod_fields he hone hC hz
    obtain ⟨v0, y0, e0, t0⟩ := hfs 0 f0 rfl
    obtain ⟨v1, y1, e1, t1⟩ := hfs 1 f1 rfl
    obtain ⟨v2, y2, e2, t2⟩ := hfs 2 f2 rfl
    obtain ⟨v3, y3, e3, t3⟩ := hfs 3 f3 rfl
    obtain ⟨n0, q0, _, b0⟩ := DataW.trod_int h0 t0
    obtain ⟨n1, q1, _, b1⟩ := DataW.trod_int h1 t1
    obtain ⟨n2, q2, _, b2⟩ := DataW.trod_int h2 t2
    obtain ⟨s3, q3, _, b3⟩ := DataW.trod_string h3 t3
    simp at q0 q1 q2 q3
    subst q0 q1 q2 q3
    refine ⟨⟨n0, n1, n2, s3⟩, ?_, ?_⟩
    · match cs, hlen with
      | [c0, c1, c2, c3], _ =>
        simp at e0 e1 e2 e3
        subst e0 e1 e2 e3
        rfl
    · exact ⟨bounds_i64 b0, bounds_i64 b1, bounds_i64 b2, b3⟩)
  exact ⟨L, ⟨hl, hs⟩, hg⟩
end
theorem Ac.row {w : World} {A : Option Addr} {n c : Nat} {L : List Ac} (h : Rs Ac.cells 4 w A n c L) {k : Nat} (hk : k < n) :
    ∃ b o x, A = some ⟨b, o, none⟩ ∧ L[k]? = some x ∧ w.cell? ⟨b, o + k * 4, none⟩ = some (.int .i64 x.k) ∧ w.cell? ⟨b, o + k * 4 + 1, none⟩ = some (.int .i64 x.a) ∧ w.cell? ⟨b, o + k * 4 + 2, none⟩ = some (.int .i64 x.b) ∧ w.cell? ⟨b, o + k * 4 + 3, none⟩ = some (.string x.s) := by
  obtain ⟨b, o, x, e, hx, hc⟩ := Rs.row h Ac.cells_len hk
  exact ⟨b, o, x, e, hx, hc 0 _ rfl, hc 1 _ rfl, hc 2 _ rfl, hc 3 _ rfl⟩
def lightA (L : List Ac) : Bool := decide (L.length ≤ 60) && L.all fun x => decide (x.s.size ≤ 40)
end Go.Proofs.YtplddbaggbdbiaaDoor

/- ObTermM, ObTermN, ObTermO, ObTermP, ObTermQ: one text. No condition. -/
/- Acts: are they light? No condition. -/
namespace Go.Proofs.YtplddbaggbdbiaaDoor
open Go.RowKit
set_option linter.unusedVariables false
end Go.Proofs.YtplddbaggbdbiaaDoor
/- The reference's Put. No condition. -/
namespace Go.Proofs.YtplddbaggbdbiaaDoor
open Go.RowKit
set_option linter.unusedVariables false
set_option linter.unusedSimpArgs false
/-- What Put answers of a node that is no atom, whose parts are there. -/
def putD (T : List Nd) (x : Nd) : List Nd × Nat := match findT T x with
  | some j => (T, j + 1)
  | none => (T ++ [x], T.length + 1)
def nodeV (x : Nd) : Value := .agg #[.int .i64 (x.k : Int), .int .i64 (x.a : Int), .int .i64 (x.b : Int), .string x.s, .int .i64 (x.n : Int)]
/-- Only atoms bear a number. -/
def NZ (T : List Nd) : Prop := ∀ y ∈ T, y.k ≠ 1 → y.n = 0
theorem find_hit {α : Type} {T : List α} {p : α → Bool} {k : Nat} {y : α} (hy : T[k]? = some y) (hp : p y = true) (hf : (T.take k).findIdx? p = none) : T.findIdx? p = some k := by
  rw [List.findIdx?_eq_none_iff] at hf
  have hk : k < T.length := (List.getElem?_eq_some_iff.1 hy).1
  rw [List.findIdx?_eq_some_iff_getElem]
  refine ⟨hk, ?_, fun j hj => ?_⟩
  · rw [List.getElem?_eq_getElem hk] at hy
    injection hy with hy
    rw [hy]; exact hp
  · rw [hf T[j] (by rw [List.mem_iff_getElem]; exact ⟨j, by simp; omega, by simp⟩)]; simp
theorem find_miss {α : Type} {T : List α} {p : α → Bool} {k : Nat} {y : α} (hy : T[k]? = some y) (hp : p y = false) (hf : (T.take k).findIdx? p = none) : (T.take (k + 1)).findIdx? p = none := by
  have hk : k < T.length := (List.getElem?_eq_some_iff.1 hy).1
  rw [List.take_succ_eq_append_getElem hk]
  rw [List.getElem?_eq_getElem hk] at hy
  injection hy with hy
  rw [List.findIdx?_eq_none_iff] at hf ⊢
  intro z hz
  rcases List.mem_append.1 hz with h | h
  · exact hf z h
  · rw [List.mem_singleton] at h; rw [h, hy]; exact hp
theorem same_of {x y : Nd} (h2 : 2 ≤ x.k) (hn : x.n = 0) (hz : y.k ≠ 1 → y.n = 0) : (decide (y.k ≠ 1) && y.same x) = decide (y.k = x.k ∧ y.a = x.a ∧ y.b = x.b ∧ y.s = x.s ∧ y.n = x.n) := by
  unfold Nd.same
  rw [Bool.eq_iff_iff]
  simp only [Bool.and_eq_true, decide_eq_true_eq]
  exact ⟨fun ⟨h1, h3, h4, h5, h6⟩ => ⟨h3, h4, h5, h6, by rw [hz h1, hn]⟩, fun ⟨h3, h4, h5, h6, _⟩ => ⟨by omega, h3, h4, h5, h6⟩⟩
theorem ints_of {T : List Nd} {w : World} {A : Option Addr} {n c : Nat} (h : RTb w A n c T) : n ≤ 9223372036854775807 := Nat.le_trans h.cap h.max
end Go.Proofs.YtplddbaggbdbiaaDoor
/- The reference's table of terms: any act. No condition. -/
namespace Go.Proofs.YtplddbaggbdbiaaDoor
open Go.RowKit
set_option linter.unusedVariables false
theorem in_of {n : Nat} {a : Int} (h : outside n a = false) : ∃ m : Nat, a = (m : Int) := by
  unfold outside at h
  simp at h
  exact ⟨a.toNat, by omega⟩
/-- Put, any node but an atom. -/
def putR (T : List Nd) (k : Nat) (a b : Int) (s : ByteArray) : List Nd × Nat := if (3 ≤ k ∧ outside T.length a = true) ∨ (4 ≤ k ∧ outside T.length b = true) then (T, 0) else putD T ⟨k, a.toNat, b.toNat, s, 0⟩
theorem putT_eq {T : List Nd} {x : Nd} {ids : List Int} (h : ids.any (outside T.length) = false) : putT T x ids = putD T x := by
  unfold putT putD
  rw [if_neg (by rw [h]; decide)]
  cases findT T x <;> rfl
theorem doT_put (T : List Nd) (k : Int) (a b : Int) (s : ByteArray) (h1 : k ≠ 1) : doT T k a b s = if k = 2 then putR T 2 0 0 s else if k = 3 then putR T 3 a 0 s else if k = 4 then putR T 4 a b ByteArray.empty else putR T 5 a b ByteArray.empty := by
  have e2 : putT T ⟨2, 0, 0, s, 0⟩ [] = putR T 2 0 0 s := by rw [putT_eq rfl]; unfold putR; rw [if_neg (by omega)]; rfl
  have e3 : kdfT T a s = putR T 3 a 0 s := by
    unfold kdfT putR
    by_cases ho : outside T.length a = true
    · rw [if_pos ho, if_pos (.inl ⟨by omega, ho⟩)]
    · rw [if_neg ho, if_neg (fun q => q.elim (fun q => ho q.2) (fun q => by omega)), putT_eq (by simpa using ho)]
      rfl
  have e4 : ∀ j, 4 ≤ j → pairT T j a b = putR T j a b ByteArray.empty := fun j hj => by
    unfold pairT putR
    by_cases ho : outside T.length a = true
    · rw [if_pos (by rw [ho]; rfl), if_pos (.inl ⟨by omega, ho⟩)]
    · by_cases hb : outside T.length b = true
      · rw [if_pos (by rw [hb]; simp), if_pos (.inr ⟨by omega, hb⟩)]
      · rw [if_neg (by simp at ho hb; rw [ho, hb]; simp), if_neg (fun q => q.elim (fun q => ho q.2) (fun q => hb q.2)), putT_eq (by simp at ho hb; simp [ho, hb])]
  unfold doT
  rw [if_neg h1, e2, e3, e4 4 (by omega), e4 5 (by omega)]
theorem nz_snoc {T : List Nd} {x : Nd} (h : NZ T) (hx : x.k ≠ 1 → x.n = 0) : NZ (T ++ [x]) := fun y hy hk => by
  rcases List.mem_append.1 hy with q | q
  · exact h y q hk
  · rw [List.mem_singleton] at q; rw [q] at hk ⊢; exact hx hk
theorem putR_nz {T : List Nd} (h : NZ T) (k : Nat) (a b : Int) (s : ByteArray) : NZ (putR T k a b s).1 := by
  unfold putR putD
  split
  · exact h
  · split
    · exact h
    · exact nz_snoc h (fun _ => rfl)
theorem doT_nz {T : List Nd} (h : NZ T) (k a b : Int) (s : ByteArray) : NZ (doT T k a b s).1 := by
  by_cases e1 : k = 1
  · subst e1
    unfold doT
    rw [if_pos rfl]
    exact nz_snoc h (fun q => (q rfl).elim)
  · rw [doT_put T k a b s e1]
    repeat' (first | exact putR_nz h _ _ _ _ | split)
end Go.Proofs.YtplddbaggbdbiaaDoor
/- The program's table and the reference's, made of the same acts. No condition. -/
namespace Go.Proofs.YtplddbaggbdbiaaDoor
open Go.RowKit
set_option linter.unusedVariables false
def stepT (T : List Nd) (x : Ac) : List Nd := (doT T x.k x.a x.b x.s).1
def madeT (L : List Ac) : List Nd := L.foldl stepT []
theorem madeT_snoc (L : List Ac) (k : Nat) (x : Ac) (h : L[k]? = some x) : madeT (L.take (k + 1)) = stepT (madeT (L.take k)) x := by
  have hk : k < L.length := (List.getElem?_eq_some_iff.1 h).1
  rw [List.take_succ_eq_append_getElem hk]
  rw [List.getElem?_eq_getElem hk] at h
  injection h with h
  rw [h]
  unfold madeT
  rw [List.foldl_append]; rfl
structure TGood (T : List Nd) (n : Nat) : Prop where
  i : TIn T
  z : NZ T
  l : T.length ≤ n
theorem madeT_good (L : List Ac) (hL : ∀ x ∈ L, x.ok) : ∀ k, k ≤ 1000 → TGood (madeT (L.take k)) k
  | 0, _ => ⟨by simpa [madeT] using TIn.nil, by intro y hy; simp [madeT] at hy, by simp [madeT]⟩
  | k + 1, hk => by
    have ih := madeT_good L hL k (by omega)
    cases hx : L[k]? with
    | none =>
      have hl : L.length ≤ k := by simpa using hx
      have e : L.take (k + 1) = L.take k := by rw [List.take_of_length_le hl, List.take_of_length_le (by omega)]
      rw [e]
      exact ⟨ih.i, ih.z, Nat.le_succ_of_le ih.l⟩
    | some x =>
      rw [madeT_snoc L k x hx]
      have ho := hL x (List.mem_of_getElem? hx)
      have h1 := doT_in ih.i (Nat.le_trans ih.l (by omega)) x.k x.a x.b x.s ho.2.2.2
      exact ⟨h1.1, doT_nz ih.z _ _ _ _, Nat.le_trans h1.2.2 (by have := ih.l; omega)⟩
theorem madeT_all (L : List Ac) (hL : ∀ x ∈ L, x.ok) (hn : L.length ≤ 1000) : TGood (madeT L) L.length := by
  have := madeT_good L hL L.length hn
  rwa [List.take_length] at this
theorem TbF.below {w0 w : World} {g : Nat} {T : List Nd} {vl vs : Value} {bm : Nat} (h : TbF w0 w g T vl vs bm) : Below w0.heap.size w0 w := h.x.l.below
theorem kindOf_succ {T : List Nd} {i : Nat} {x : Nd} (hx : T[i]? = some x) : kindOf T ((i + 1 : Nat) : Int) = x.k ∧ partsOf T ((i + 1 : Nat) : Int) = x.parts := by
  have hi : i < T.length := (List.getElem?_eq_some_iff.1 hx).1
  have ho : outside T.length ((i + 1 : Nat) : Int) = false := by unfold outside; simp; omega
  unfold kindOf partsOf
  rw [ho]
  have : (((i + 1 : Nat) : Int)).toNat - 1 = i := by omega
  simp only [Bool.false_eq_true, if_false, this, hx]
  exact ⟨trivial, trivial⟩
end Go.Proofs.YtplddbaggbdbiaaDoor
/- made: both tables of the same acts. No condition. -/
namespace Go.Proofs.YtplddbaggbdbiaaDoor
open Go.RowKit
set_option linter.unusedVariables false
end Go.Proofs.YtplddbaggbdbiaaDoor

/- The program's table of terms: Size, Label. No condition. -/
namespace Go.Proofs.YtplddbaggbdbiaaDoor
open Go.RowKit
set_option linter.unusedVariables false
/-- The sizes, to be read. -/
def SRd (w : World) (g : Nat) (T : List Nd) : Prop := ∃ A c, w.cell? ⟨g, 1, none⟩ = some (.slice A T.length c) ∧ Sl w A T.length c 1 ((sizesL T).map i64n)
theorem SRd.mono {w w' : World} {g : Nat} {T : List Nd} (h : SRd w g T) (hb : Gr w w') : SRd w' g T := by
  obtain ⟨A, c, h, hs⟩ := h
  exact ⟨A, c, (Below.cell hb (World.block_lt_of_cell? w _ h)).trans h, hs.mono hb⟩
theorem TbF.srd {w0 w : World} {g : Nat} {T : List Nd} {vl vs : Value} {bm : Nat} (h : TbF w0 w g T vl vs bm) : SRd w g T := by
  obtain ⟨A, c, e, hs⟩ := h.x.s.slice
  rw [List.length_map] at e hs
  have hb := h.x.blk.cell 1
  exact ⟨A, c, by rw [hb, e]; rfl, hs⟩
def sizeT (T : List Nd) (id : Int) : Nat := if outside T.length id then 0 else (sizesL T).getD (id.toNat - 1) 0
theorem assert_one {P : Program} {X : TypeId} {fs : Array Field} (hu : P.underlying X = some (.struct fs)) (xT : TypeId) (v : Value) (w : World) : (Instr.typeAssert (.iface X v) xT X false).run P w = .ok v w := by
  simp [Instr.typeAssert, run_underlying hu]
def labelT (T : List Nd) (id : Int) : ByteArray := if outside T.length id then ⟨#[]⟩ else match T[id.toNat - 1]? with
  | some x => if x.k = 2 ∨ x.k = 3 then x.s else ⟨#[]⟩
  | none => ⟨#[]⟩
end Go.Proofs.YtplddbaggbdbiaaDoor
