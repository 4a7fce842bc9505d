/- Own texts of this claim, one behind the other. No condition. -/
import Derived.Test.YtfemhhjmfckicaaDoorObPkA
import Derived.Test.YtfemhhjmfckicaaDoorObPkI
import Derived.Test.YtfemhhjmfckicaaDoorObPkN
import Derived.Test.YtfemhhjmfckicaaDoorObPkW
import Derived.ProofKit
import Derived.Deep.Slices
import Derived.Deep.Fields
import Derived.Lib.SmallJoins
import Derived.Stop.Joined
import Derived.Handed
import Derived.OpenShut
import Derived.Test.YtfemhhjmfckicaaDoorRows
import Derived.Lay
import Derived.LaidMore
import Derived.LaidOnce
import Derived.PinnedBridge
import Derived.Lib.LaidU8

/- What the rows' frames tell of an argument that came in, in the words of ObBase. No condition. -/
namespace Go.Proofs.YtfemhhjmfckicaaDoor
open Go.RowKit Go.ChangeShapes Go.WideShapes Go.Deep
set_option linter.unusedVariables false

section
variable {H : Type} {enc : TypeId × Value → H} {P : Program} {W : World}

/-- A slice that came in, element by element: each reads as some x, in its own cells 'f x'. -/
theorem open_elems {α : Type} [Inhabited α] {t e : TypeId} {C fuel : Nat} {y : DataW H × List MemPlace} {a : Option Addr} {len cap : Nat} (ht : P.underlying t = some (.slice e)) (hC : P.cellsOf e = C) (hpos : 0 < C)
    (h : DataW.trod enc P W 0 (fun _ => true) true fuel t [.slice a len cap] = some y)
    (f : α → List Value) (hf : ∀ x, (f x).length = C) (good : α → Prop)
    (hel : ∀ n cs z, cs.length = C → DataW.trod enc P W 0 (fun _ => true) true n e cs = some z → ∃ x, cs = f x ∧ good x) :
    ∃ L : List α, L.length = len ∧ Sl W a len cap C (L.flatMap f) ∧ ∀ x ∈ L, good x := by
  rcases open_slice ht h with ⟨hcs, _⟩ | ⟨ad, len', cap', m, n, D, Pl, hcs, _, hl, hm, hmm, _, hx⟩
  · simp at hcs
    obtain ⟨rfl, rfl, rfl⟩ := hcs
    exact ⟨[], rfl, Sl.nil _ _, by simp⟩
  · simp at hcs
    obtain ⟨rfl, rfl, rfl⟩ := hcs
    rw [hC] at hx
    obtain ⟨V, hV⟩ := choose_lt (α := α) (n := len) (p := fun i x => good x ∧ ∀ j, j < C → W.cell? (ad.add (i * C + j)) = (f x)[j]?) (fun i hi => by
      obtain ⟨cs', h1, h2⟩ := hx i (by simp at hmm; omega)
      obtain ⟨_, hlen, hat⟩ := World.cells?_some h1
      obtain ⟨x, rfl, hg⟩ := hel _ _ _ hlen h2
      exact ⟨x, hg, fun j hj => by rw [← Go.Deep.add_add]; exact hat j hj⟩)
    refine ⟨(List.range len).map V, by simp, ⟨by rw [flat_length hf]; simp, hl, hm, fun hn => ?_⟩, ?_⟩
    · have h0 := (hV 0 hn).2 0 hpos
      rw [Nat.zero_mul, Nat.zero_add, List.getElem?_eq_getElem (by rw [hf]; exact hpos)] at h0
      obtain ⟨b, o, sp⟩ := ad
      have hsp : sp = none := by simpa [Addr.add] using World.cell?_spot h0
      subst hsp
      refine ⟨b, o, rfl, fun j u hu => ?_⟩
      have hj : j < len * C := by
        have := (List.getElem?_eq_some_iff.1 hu).1
        rw [flat_length hf] at this
        simpa using this
      have hdiv : j / C < len := by rw [Nat.div_lt_iff_lt_mul hpos]; exact hj
      have hmod := Nat.mod_lt j hpos
      have e : j / C * C + j % C = j := Nat.div_add_mod' j C
      rw [← e, flat_at hf _ (j / C) (j % C) hmod (V (j / C)) (by simp [hdiv])] at hu
      rw [← add_flat, ← e, (hV (j / C) hdiv).2 (j % C) hmod]
      exact hu
    · intro x hx
      simp at hx
      obtain ⟨i, hi, rfl⟩ := hx
      exact (hV i hi).1

/-- The one-cell fields of a struct. -/
theorem trod_fields {t : TypeId} {fs : Array Field} {fuel : Nat} {cs : List Value} {x : DataW H × List MemPlace} (ht : P.underlying t = some (.struct fs)) (hone : oneCellFields P fs = true) (hC : P.cellsOf t = fs.size)
    (h : DataW.trod enc P W 0 (fun _ => true) true fuel t cs = some x) :
    cs.length = fs.size ∧ ∃ n, ∀ (j : Nat) (fd : Field), fs[j]? = some fd → ∃ v y, cs[j]? = some v ∧ DataW.trod enc P W 0 (fun _ => true) true n fd.type [v] = some y := by
  obtain ⟨xs, n, _, _, hlen, hxl, hf⟩ := DataW.trod_struct ht h
  refine ⟨hlen.trans hC, n, fun j fd hj => ?_⟩
  obtain ⟨ho, hk⟩ := hone_of hone j fd hj
  have hjl : j < fs.size := (Array.getElem?_eq_some_iff.1 hj).1
  have h1 := hf j fd hj
  rw [ho, hk] at h1
  have hjc : j < cs.length := by rw [hlen, hC]; exact hjl
  have hone' : (cs.drop j).take 1 = [cs[j]] := by rw [List.drop_eq_getElem_cons hjc]; rfl
  rw [hone', List.getElem?_eq_getElem (show j < xs.length by omega)] at h1
  exact ⟨_, _, List.getElem?_eq_getElem hjc, h1⟩

/-! ### bytes, numbers, rows of bytes -/
theorem open_bytes' {t e : TypeId} {a : Option Addr} {len cap fuel : Nat} {y : DataW H × List MemPlace} (ht : P.underlying t = some (.slice e)) (he : P.underlying e = some (.int .u8)) (hc : P.cellsOf e = 1)
    (h : DataW.trod enc P W 0 (fun _ => true) true fuel t [.slice a len cap] = some y) : ∃ l, Bs W a len cap l := by
  obtain ⟨L, _, hs, _⟩ := open_elems (α := UInt8) ht hc (by decide) h (fun x => [u8c x]) (fun _ => rfl) (fun _ => True) (fun n cs z hl hz => by
    obtain ⟨v, rfl, _, hw⟩ := DataW.trod_int he hz
    have := bounds_u8 hw
    exact ⟨UInt8.ofNat v.toNat, by rw [u8_of v (by omega) (by omega)], trivial⟩)
  refine ⟨L, ?_⟩
  have e : L.flatMap (fun x => [u8c x]) = L.map u8c := flat_one _ L
  rw [e] at hs
  exact hs
theorem open_bytes {t e : TypeId} {a : Option Addr} {len cap : Nat} {d : DataW H} {p : List MemPlace} (ht : P.underlying t = some (.slice e)) (he : P.underlying e = some (.int .u8)) (hc : P.cellsOf e = 1)
    (h : DataW.Trod enc P W 0 (fun _ => true) true t (.slice a len cap) d p) : ∃ l, Bs W a len cap l := by
  obtain ⟨fuel, hf⟩ := h
  exact open_bytes' ht he hc hf

/-- Numbers, each one that an int holds. -/
def Fits (l : List Int) : Prop := ∀ x ∈ l, -9223372036854775808 ≤ x ∧ x ≤ 9223372036854775807
theorem open_nums {t e : TypeId} {a : Option Addr} {len cap : Nat} {d : DataW H} {p : List MemPlace} (ht : P.underlying t = some (.slice e)) (he : P.underlying e = some (.int .i64)) (hc : P.cellsOf e = 1)
    (h : DataW.Trod enc P W 0 (fun _ => true) true t (.slice a len cap) d p) : ∃ l, Is W a len cap l ∧ Fits l := by
  obtain ⟨fuel, hf⟩ := h
  obtain ⟨L, _, hs, hg⟩ := open_elems (α := Int) ht hc (by decide) hf (fun x => [i64c x]) (fun _ => rfl) (fun x => -9223372036854775808 ≤ x ∧ x ≤ 9223372036854775807) (fun n cs z hl hz => by
    obtain ⟨v, rfl, _, hw⟩ := DataW.trod_int he hz
    have := bounds_i64 hw
    exact ⟨v, rfl, by omega⟩)
  have e : L.flatMap (fun x => [i64c x]) = L.map i64c := flat_one _ L
  rw [e] at hs
  exact ⟨L, hs, hg⟩

theorem open_rows {t e b : TypeId} {a : Option Addr} {len cap : Nat} {d : DataW H} {p : List MemPlace} (ht : P.underlying t = some (.slice e)) (he : P.underlying e = some (.slice b)) (hb : P.underlying b = some (.int .u8)) (hc : P.cellsOf e = 1) (hcb : P.cellsOf b = 1)
    (h : DataW.Trod enc P W 0 (fun _ => true) true t (.slice a len cap) d p) : ∃ L, Bss W a len cap L := by
  obtain ⟨fuel, hf⟩ := h
  obtain ⟨L, _, hs, hg⟩ := open_elems (α := BRow) ht hc (by decide) hf (fun x => [x.v]) (fun _ => rfl) (fun r => Bs W r.a r.n r.c r.l) (fun n cs z hl hz => by
    obtain ⟨a', l', c', rfl⟩ := Go.Joins.slice_form he hz
    obtain ⟨l, hl⟩ := open_bytes' he hb hcb hz
    exact ⟨⟨a', l', c', l⟩, rfl, hl⟩)
  have e : L.flatMap (fun x => [x.v]) = L.map BRow.v := flat_one _ L
  rw [e] at hs
  exact ⟨L, hs, hg⟩
end
end Go.Proofs.YtfemhhjmfckicaaDoor

/- What the rows' frames tell of changes of names that came in. No condition. -/
namespace Go.Proofs.YtfemhhjmfckicaaDoor
open Go.RowKit Go.ChangeShapes Go.WideShapes Go.Deep
set_option linter.unusedVariables false
section
variable {H : Type} {enc : TypeId × Value → H} {P : Program} {W : World}
theorem open_changes {t e b : TypeId} {f0 f1 f2 : Field} {a : Option Addr} {len cap : Nat} {d : DataW H} {p : List MemPlace} (ht : P.underlying t = some (.slice e)) (he : P.underlying e = some (.struct #[f0, f1, f2])) (hone : oneCellFields P #[f0, f1, f2] = true) (hC : P.cellsOf e = 3)
    (h0 : P.underlying f0.type = some .string) (h1 : P.underlying f1.type = some (.slice b)) (h2 : P.underlying f2.type = some .bool) (hb : P.underlying b = some (.int .u8)) (hcb : P.cellsOf b = 1)
    (h : DataW.Trod enc P W 0 (fun _ => true) true t (.slice a len cap) d p) : ∃ L : List ChV, Chg W a len cap L := by
  obtain ⟨fuel, hf⟩ := h
  obtain ⟨L, hl, hs, hg⟩ := open_elems (α := ChV) ht hC (by decide) hf ChV.cells ChV.cells_len (fun x => Bs W x.a x.m x.c x.d.v ∧ x.d.n.length ≤ 9223372036854775807) (fun n cs z hlen hz => by
    obtain ⟨_, m, hfs⟩ := trod_fields he hone hC hz
    obtain ⟨v0, y0, e0, t0⟩ := hfs 0 f0 rfl
    obtain ⟨v1, y1, e1, t1⟩ := hfs 1 f1 rfl
    obtain ⟨v2, y2, e2, t2⟩ := hfs 2 f2 rfl
    obtain ⟨s0, q0, _, b0⟩ := DataW.trod_string h0 t0
    obtain ⟨a', l', c', q1⟩ := Go.Joins.slice_form h1 t1
    obtain ⟨g0, q2, _⟩ := DataW.trod_bool h2 t2
    simp at q0 q1 q2
    subst q0 q1 q2
    obtain ⟨l, hl⟩ := open_bytes' h1 hb hcb t1
    refine ⟨⟨⟨s0.data.toList, l, g0⟩, a', l', c'⟩, ?_, hl, ?_⟩
    · match cs, hlen with
      | [c0, c1, c2], _ =>
        simp at e0 e1 e2
        subst e0 e1 e2
        rfl
    · have : s0.data.toList.length = s0.size := Array.length_toList
      show s0.data.toList.length ≤ _
      rw [this]
      exact b0)
  exact ⟨L, hl, hs, hg⟩
end
end Go.Proofs.YtfemhhjmfckicaaDoor

/- What a call's contract may lean on besides: the shape of the variables that are not listed; rows of texts that came in. No condition. -/
namespace Go.Proofs.YtfemhhjmfckicaaDoor
open Go.RowKit
set_option linter.unusedVariables false
section
variable {H : Type} {enc : TypeId × Value → H}
theorem handed_shaped {a : Assume} {C : Checked} {os : Os} {f : FuncId} {fn : Func} {s : ChangeSpec} {conds : List PathCond} {apart fresh handsOn again : Bool} {X : World → Array Value → Prop}
    (hX : ∀ (w w' : World) (args : Array Value), w.heap = w'.heap → X w args → X w' args)
    (own : ownKnob C.prog.godebug = none) (started : os.Started) (noInit : C.prog.inits.idxOf? f = none) (hfn : C.prog.funcs[f]? = some fn)
    (witness : ∃ (w : World) (tape : Tape) (i : Input), w.os = os ∧ (w.forCall tape i).Shaped C.prog ∧ i.vars = [] ∧ Input.okWide C.prog (w.forCall tape i) .any w.heap.size f i ∧
      ((s.pre enc C.prog fn conds apart (w.forCall tape i).memory i.args ∧ X (w.forCall tape i).memory i.args) ∧ sizedMet enc C.prog fn (OpenSpec.ofChange s) apart (w.forCall tape i).memory i.args) ∧ a.holds C.prog (lone (Frame.enter C.prog f i.args .normal) [] (w.forCall tape i)))
    (contract : ∀ (W : World) (base : Nat) (args : Array Value) (ds gs : List (DataW H)) (before : List MemPlace),
      (∀ (j : Nat) t v, fn.params[j]? = some t → args[j]? = some v → Value.okWide C.prog W .any base t v) →
      DataW.Whole enc C.prog fn.params.toList s.vars apart W args.toList ds gs before → X W args → W.ShapedOpen C.prog →
      Calls C.prog f args W fun e W' => ∃ v, e = .returned v ∧ s.post enc C.prog fn apart fresh handsOn again W args v W') :
    ReturnsInHanded a C os f .any (fun w args => (s.pre enc C.prog fn conds apart w args ∧ X w args) ∧ sizedMet enc C.prog fn (OpenSpec.ofChange s) apart w args) (s.post enc C.prog fn apart fresh handsOn again) := by
  refine returnsInHanded_of_calls own started noInit witness fun w tape i _ hshape _ hok hpre _ => ?_
  obtain ⟨_, _, _, fn', hfn', _, _, _, _, hval⟩ := hok
  obtain rfl : fn' = fn := Option.some.inj (hfn'.symm.trans hfn)
  obtain ⟨⟨⟨ds, gs, before, hw, _⟩, hx⟩, _⟩ := hpre
  refine (contract (w.forCall tape i) w.heap.size i.args ds gs before hval (DataW.Whole.of_heap (w' := w.forCall tape i) (by rfl) hw) (hX _ _ _ (by rfl) hx) hshape).mono fun e W' ⟨v, he, hp⟩ => ?_
  subst he
  exact ChangeSpec.post_blind hp
end
section
variable {H : Type} {enc : TypeId × Value → H} {P : Program} {W : World}
theorem open_words {t e : TypeId} {a : Option Addr} {len cap : Nat} {d : DataW H} {p : List MemPlace} (ht : P.underlying t = some (.slice e)) (he : P.underlying e = some .string) (hc : P.cellsOf e = 1)
    (h : DataW.Trod enc P W 0 (fun _ => true) true t (.slice a len cap) d p) : ∃ ps, Ws W a len cap ps ∧ ∀ p ∈ ps, p.length ≤ 9223372036854775807 := by
  obtain ⟨fuel, hf⟩ := h
  obtain ⟨L, _, hs, hg⟩ := open_elems (α := List UInt8) ht hc (by decide) hf (fun x => [strc x]) (fun _ => rfl) (fun x => x.length ≤ 9223372036854775807) (fun n cs z hl hz => by
    obtain ⟨v, rfl, _, hw⟩ := DataW.trod_string he hz
    refine ⟨v.data.toList, ?_, ?_⟩
    · show [Value.string v] = [strc v.data.toList]
      rfl
    · have : v.data.toList.length = v.size := Array.length_toList
      rw [this]
      exact hw)
  have e : L.flatMap (fun x => [strc x]) = L.map strc := flat_one _ L
  rw [e] at hs
  exact ⟨L, hs, hg⟩
end
end Go.Proofs.YtfemhhjmfckicaaDoor

/- The library's tables of UTF-8, as the names' statements list them. No condition. -/
namespace Go.Proofs.YtfemhhjmfckicaaDoor
open Go.RowKit Go.Shelf Go.Lib
abbrev laidS : List (String × DataW Unit) := [("unicode/utf8.acceptRanges", Rows.laid_unicode_utf8_acceptRanges), ("unicode/utf8.first", Rows.laid_unicode_utf8_first)]
theorem accept_eq : (Rows.laid_unicode_utf8_acceptRanges : DataW Unit) = acceptData := by kernel_rfl
theorem u8x : U8Extra Tryd.prog Tryd.lays260_ren := ⟨by kernel_rfl, by kernel_rfl, by kernel_rfl, by kernel_rfl, by kernel_rfl, by kernel_rfl, by kernel_rfl⟩
theorem u8tabs_of {W : World} (h : laidMetH Tryd.prog laidS W) : U8 W := by
  rw [MakeChecks.laidMetH_plain _ _ _ (by kernel_rfl)] at h
  exact utf8Tabs_of_reads Tryd.lays260 u8x (Pinned.utf8First_eq ▸ laidMet.reads h (.tail _ (.head _))) (accept_eq ▸ laidMet.reads h (.head _))
theorem mlen_of {W : World} (h : W.ShapedOpen Tryd.prog) : MLen W := Tryd.laysM146.s1_3 W h
theorem laid_met (os : Os) (args : Array Value) : laidMetH Tryd.prog laidS ((World.laidAll Tryd.prog os laidS).forCall (fun _ _ => 0) ⟨#[], args, []⟩).memory := by
  rw [MakeChecks.laidMetH_plain _ _ _ (by kernel_rfl)]
  exact laidMet_laidAll _ (by kernel_rfl) (by kernel_rfl)
end Go.Proofs.YtfemhhjmfckicaaDoor
