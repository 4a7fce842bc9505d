/- Own texts of this claim, one behind the other. No condition. -/
import Derived.Test.YtplddbaggbdbiaaDoorObPkAA
import Derived.Test.YtplddbaggbdbiaaDoorObPkAD
import Derived.Deep.RegionWith

namespace Go.Proofs.YtplddbaggbdbiaaDoor
open Go.RowKit
set_option linter.unusedVariables false

/-! ### stores elsewhere -/
theorem Sl.far {w : World} {A : Option Addr} {n c s : Nat} {xs : List Value} (h : Sl w A n c s xs) {p : Addr} (hp : ∀ b o, A = some ⟨b, o, none⟩ → b ≠ p.block) (u : Value) : Sl (w.setCell p u) A n c s xs := by
  obtain ⟨h1, h2, h3, h4⟩ := h
  refine ⟨h1, h2, h3, fun hn => ?_⟩
  obtain ⟨b, o, rfl, hc⟩ := h4 hn
  refine ⟨b, o, rfl, fun j u' hu => ?_⟩
  rw [World.cell?_of_block (w := w) (Below.heap_setCell w p u b (hp b o rfl))]
  exact hc j u' hu
theorem Own.block {w0 w : World} {e : TypeId} {size n : Nat} {A : Option Addr} {m c : Nat} {xs : List Value} (h : Own w0 w e size (.slice A m c) n xs) : ∀ b o, A = some ⟨b, o, none⟩ → w0.heap.size ≤ b := by
  intro b o hA
  rcases h.1.2 with ⟨h', _⟩ | ⟨g, cap, cur, hv, hg, _⟩
  · injection h' with h1 h2 h3; subst h1; cases hA
  · injection hv with h1 h2 h3; subst h1; injection hA with h; injection h with h h'; subst h; exact hg

/-- A block of slices' values: rows of bytes in other blocks. -/
def Img (w : World) (g : Nat) (t : TypeId) (R : List BRow) : Prop := Blk w g t (R.map BRow.v) ∧ ∀ r ∈ R, Bs w r.a r.n r.c r.l ∧ ∀ b o, r.a = some ⟨b, o, none⟩ → b ≠ g
theorem Img.mono {w w' : World} {g : Nat} {t : TypeId} {R : List BRow} (h : Img w g t R) (hb : Below w.heap.size w w') : Img w' g t R :=
  ⟨h.1.mono hb, fun r hr => ⟨(h.2 r hr).1.mono hb, (h.2 r hr).2⟩⟩
theorem Img.set {w : World} {g : Nat} {t : TypeId} {R : List BRow} (h : Img w g t R) (i : Nat) (r : BRow) (hr : Bs w r.a r.n r.c r.l) (hg : ∀ b o, r.a = some ⟨b, o, none⟩ → b ≠ g) : Img (w.setCell ⟨g, i, none⟩ r.v) g t (R.set i r) := by
  refine ⟨by rw [List.map_set]; exact h.1.set i r.v, fun x hx => ?_⟩
  rcases List.mem_or_eq_of_mem_set hx with hx | rfl
  · exact ⟨(h.2 x hx).1.far (p := ⟨g, i, none⟩) (h.2 x hx).2 _, (h.2 x hx).2⟩
  · exact ⟨hr.far (p := ⟨g, i, none⟩) hg _, hg⟩
theorem Img.bss {w : World} {g : Nat} {t : TypeId} {R : List BRow} (h : Img w g t R) (hm : R.length ≤ maxLen) : Bss w (some ⟨g, 0, none⟩) R.length R.length R :=
  ⟨⟨by simp, Nat.le_refl _, hm, fun _ => ⟨g, 0, rfl, fun j u hu => by rw [Nat.zero_add, h.1.cell]; exact hu⟩⟩, fun r hr => (h.2 r hr).1⟩

/-! ### writes -/
structure Wr where
  p : Int
  r : BRow
instance : Inhabited Wr := ⟨⟨0, default⟩⟩
def Wr.cells (x : Wr) : List Value := [.int .i64 x.p, x.r.v]
theorem Wr.cells_len (x : Wr) : x.cells.length = 2 := rfl
def Wrs (w : World) (A : Option Addr) (n c : Nat) (L : List Wr) : Prop := L.length = n ∧ Sl w A n c 2 (L.flatMap Wr.cells) ∧ ∀ x ∈ L, Bs w x.r.a x.r.n x.r.c x.r.l ∧ -9223372036854775808 ≤ x.p ∧ x.p ≤ 9223372036854775807
theorem Wrs.mono {w w' : World} {A : Option Addr} {n c : Nat} {L : List Wr} (h : Wrs w A n c L) (hb : Below w.heap.size w w') : Wrs w' A n c L := ⟨h.1, h.2.1.mono hb, fun x hx => ⟨(h.2.2 x hx).1.mono hb, (h.2.2 x hx).2⟩⟩
theorem Wrs.row {w : World} {A : Option Addr} {n c : Nat} {L : List Wr} (h : Wrs w A n c L) {k : Nat} (hk : k < n) :
    ∃ b o x, A = some ⟨b, o, none⟩ ∧ L[k]? = some x ∧ w.cell? ⟨b, o + k * 2, none⟩ = some (.int .i64 x.p) ∧ w.cell? ⟨b, o + k * 2 + 1, none⟩ = some (.slice x.r.a x.r.n x.r.c) ∧ Bs w x.r.a x.r.n x.r.c x.r.l ∧ -9223372036854775808 ≤ x.p ∧ x.p ≤ 9223372036854775807 := by
  obtain ⟨hl, hs, hx⟩ := h
  obtain ⟨b, o, e, hc⟩ := hs.addr (by omega)
  have hr : L[k]? = some (L[k]'(by omega)) := List.getElem?_eq_getElem (by omega)
  have h0 := flat_at (s := 2) Wr.cells_len L k 0 (by decide) _ hr
  have h1 := flat_at (s := 2) Wr.cells_len L k 1 (by decide) _ hr
  exact ⟨b, o, _, e, hr, hc _ _ (h0.trans rfl), by rw [Nat.add_assoc]; exact hc _ _ (h1.trans rfl), hx _ (List.getElem_mem _)⟩

def zeros512 : List UInt8 := List.replicate 512 0
def imgPut (size : Nat) (I : List (List UInt8)) (x : Wr) : List (List UInt8) := if 0 ≤ x.p ∧ x.p < size then I.set x.p.toNat x.r.l else I
def imgTo (size : Nat) (L : List Wr) : List (List UInt8) := L.foldl (imgPut size) (List.replicate size zeros512)
theorem imgTo_take (size : Nat) (L : List Wr) (k : Nat) (x : Wr) (h : L[k]? = some x) : imgTo size (L.take (k + 1)) = imgPut size (imgTo size (L.take k)) x := by
  have hk : k < L.length := (List.getElem?_eq_some_iff.1 h).1
  rw [List.take_succ_eq_append_getElem hk]
  rw [List.getElem?_eq_getElem hk] at h
  injection h with h
  rw [h]
  simp [imgTo]
theorem imgPut_len (size : Nat) (I : List (List UInt8)) (x : Wr) : (imgPut size I x).length = I.length := by unfold imgPut; split <;> simp
theorem imgTo_len (size : Nat) (L : List Wr) : (imgTo size L).length = size := by
  unfold imgTo
  have : ∀ I : List (List UInt8), (L.foldl (imgPut size) I).length = I.length := by
    induction L with
    | nil => intro I; rfl
    | cons x L ih => intro I; rw [List.foldl_cons, ih, imgPut_len]
  rw [this]; simp

def imgStart (size k : Nat) : List (List UInt8) := List.replicate k zeros512 ++ List.replicate (size - k) []
theorem imgStart_set (size k : Nat) (h : k < size) : (imgStart size k).set k zeros512 = imgStart size (k + 1) := by
  unfold imgStart
  have e : size - k = (size - (k + 1)) + 1 := by omega
  rw [List.set_append_right _ _ (by simp), e, List.replicate_succ, List.length_replicate, Nat.sub_self, List.set_cons_zero, List.replicate_succ', List.append_assoc]
  rfl
theorem zeros512_len : zeros512.length = 512 := List.length_replicate
theorem zeros512_cells : zeros512.map u8c = reps 512 (.int .u8 0) := by unfold zeros512 reps; rw [List.map_replicate]; rfl
theorem Img.new {wr : World} {g : Nat} {t : TypeId} {R : List BRow} (h : Img wr g t R) (k : Nat) :
    Img ((wr.alloc (.cells (reps 512 (.int .u8 0)).toArray 5)).setCell ⟨g, k, none⟩ (.slice (some ⟨wr.heap.size, 0, none⟩) 512 512)) g t (R.set k ⟨some ⟨wr.heap.size, 0, none⟩, 512, 512, zeros512⟩) := by
  have hg := h.1.lt
  refine (h.mono ((Below.refl _ _).alloc (Nat.le_refl _) _)).set k ⟨some ⟨wr.heap.size, 0, none⟩, 512, 512, zeros512⟩ ⟨?_, Nat.le_refl _, by simp only [maxLen]; omega, fun _ => ⟨_, _, rfl, fun j u hu => ?_⟩⟩ ?_
  · rw [List.length_map, zeros512_len]; rfl
  · rw [Nat.zero_add, (Blk.new wr 5 (reps 512 (.int .u8 0)).toArray).cell]
    rw [zeros512_cells] at hu
    exact hu
  · intro b o h'
    injection h' with h'
    injection h' with h'
    omega
theorem tRows : ElemT Tryd.prog 44 31 (.slice none 0 0) 1 24 := ⟨Tryd.underlying44, by kernel_rfl, rfl, by decide, by decide⟩
def RetRows (w : World) (R : List (List UInt8)) (e : Ending) (w' : World) : Prop := ∃ A n c L, e = .returned (.slice A n c) ∧ Bss w' A n c L ∧ L.map BRow.l = R ∧ Below w.heap.size w w'

end Go.Proofs.YtplddbaggbdbiaaDoor

/- ObSmall, ObSetB: one text. No condition. -/
namespace Go.Proofs.YtplddbaggbdbiaaDoor
/-- A slice's length. -/
def slN : Value → Nat
  | .slice _ n _ => n
  | _ => 0
theorem Sl.keepB {w w' : World} {A : Option Addr} {n c s : Nat} {xs : List Value} (h : Sl w A n c s xs) (hp : ∀ b o, A = some ⟨b, o, none⟩ → w'.heap[b]? = w.heap[b]?) : Sl w' A n c s xs := by
  obtain ⟨h1, h2, h3, h4⟩ := h
  refine ⟨h1, h2, h3, fun hn => ?_⟩
  obtain ⟨b, o, rfl, hc⟩ := h4 hn
  refine ⟨b, o, rfl, fun j u hu => ?_⟩
  rw [World.cell?_of_block (w := w) (hp b o rfl)]
  exact hc j u hu
end Go.Proofs.YtplddbaggbdbiaaDoor
namespace Go.Proofs.YtplddbaggbdbiaaDoor
open Go.RowKit
set_option linter.unusedVariables false
theorem Below.setBoth {B : Nat} {a b : World} (h : Below B a b) {p : Nat} (i : Nat) (x : Value) : Below B (a.setCell ⟨p, i, none⟩ x) (b.setCell ⟨p, i, none⟩ x) := by
  obtain ⟨h1, h2, h3, h4, h5⟩ := h
  refine ⟨h1, h2, h3, by simpa [World.setCell] using h4, fun k hk => ?_⟩
  have := h5 k hk
  by_cases e : k = p
  · subst e
    simp [World.setCell, Array.getElem?_modify, this]
  · rw [Below.heap_setCell b _ _ k e, Below.heap_setCell a _ _ k e]; exact this
theorem Below.setTwice {B : Nat} {a : World} (p i : Nat) (x y : Value) : Below B (a.setCell ⟨p, i, none⟩ y) ((a.setCell ⟨p, i, none⟩ x).setCell ⟨p, i, none⟩ y) := by
  refine ⟨rfl, rfl, rfl, by simp [World.setCell], fun k hk => ?_⟩
  by_cases e : k = p
  · subst e
    simp only [World.setCell, Array.getElem?_modify]
    cases a.heap[k]? with
    | none => simp
    | some o => cases o <;> simp
  · rw [Below.heap_setCell _ _ _ k e, Below.heap_setCell _ _ _ k e, Below.heap_setCell _ _ _ k e]
theorem setCell_size (a : World) (p : Addr) (x : Value) : (a.setCell p x).heap.size = a.heap.size := by simp [World.setCell]
end Go.Proofs.YtplddbaggbdbiaaDoor
