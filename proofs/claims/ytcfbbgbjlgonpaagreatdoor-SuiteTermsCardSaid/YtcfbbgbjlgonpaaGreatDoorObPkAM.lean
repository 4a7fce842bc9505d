/- Own texts of this claim, one behind the other. No condition. -/
import Derived.Test.YtcfbbgbjlgonpaaGreatDoorObPkAA
import Derived.Test.YtcfbbgbjlgonpaaGreatDoorObPkAJ
import Derived.ProofKit
import Derived.Deep.Slices
import Derived.Deep.Fields
import Derived.Lib.SmallJoins

/- What the rows' frames tell of an argument that came in, in the words of ObBase. No condition. -/
namespace Go.Proofs.YtcfbbgbjlgonpaaGreatDoor
open Go.RowKit Go.ChangeShapes Go.WideShapes Go.Deep
set_option linter.unusedVariables false

section
variable {H : Type} {enc : TypeId × Value → H} {P : Program} {W : World}

/-- A slice that came in, element by element: each reads as some x, in its own cells 'f x'. -/
theorem open_elems {α : Type} [Inhabited α] {t e : TypeId} {C fuel : Nat} {y : DataW H × List MemPlace} {a : Option Addr} {len cap : Nat} (ht : P.underlying t = some (.slice e)) (hC : P.cellsOf e = C) (hpos : 0 < C)
    (h : DataW.trod enc P W 0 (fun _ => true) true fuel t [.slice a len cap] = some y)
    (f : α → List Value) (hf : ∀ x, (f x).length = C) (good : α → Prop)
    (hel : ∀ n cs z, cs.length = C → DataW.trod enc P W 0 (fun _ => true) true n e cs = some z → ∃ x, cs = f x ∧ good x) :
    ∃ L : List α, L.length = len ∧ Sl W a len cap C (L.flatMap f) ∧ ∀ x ∈ L, good x := by
  rcases open_slice ht h with ⟨hcs, _⟩ | ⟨ad, len', cap', m, n, D, Pl, hcs, _, hl, hm, hmm, _, hx⟩
  · simp at hcs
    obtain ⟨rfl, rfl, rfl⟩ := hcs
    exact ⟨[], rfl, Sl.nil _ _, by simp⟩
  · simp at hcs
    obtain ⟨rfl, rfl, rfl⟩ := hcs
    rw [hC] at hx
    obtain ⟨V, hV⟩ := choose_lt (α := α) (n := len) (p := fun i x => good x ∧ ∀ j, j < C → W.cell? (ad.add (i * C + j)) = (f x)[j]?) (fun i hi => by
      obtain ⟨cs', h1, h2⟩ := hx i (by simp at hmm; omega)
      obtain ⟨_, hlen, hat⟩ := World.cells?_some h1
      obtain ⟨x, rfl, hg⟩ := hel _ _ _ hlen h2
      exact ⟨x, hg, fun j hj => by rw [← Go.Deep.add_add]; exact hat j hj⟩)
    refine ⟨(List.range len).map V, by simp, ⟨by rw [flat_length hf]; simp, hl, hm, fun hn => ?_⟩, ?_⟩
    · have h0 := (hV 0 hn).2 0 hpos
      rw [Nat.zero_mul, Nat.zero_add, List.getElem?_eq_getElem (by rw [hf]; exact hpos)] at h0
      obtain ⟨b, o, sp⟩ := ad
      have hsp : sp = none := by simpa [Addr.add] using World.cell?_spot h0
      subst hsp
      refine ⟨b, o, rfl, fun j u hu => ?_⟩
      have hj : j < len * C := by
        have := (List.getElem?_eq_some_iff.1 hu).1
        rw [flat_length hf] at this
        simpa using this
      have hdiv : j / C < len := by rw [Nat.div_lt_iff_lt_mul hpos]; exact hj
      have hmod := Nat.mod_lt j hpos
      have e : j / C * C + j % C = j := Nat.div_add_mod' j C
      rw [← e, flat_at hf _ (j / C) (j % C) hmod (V (j / C)) (by simp [hdiv])] at hu
      rw [← add_flat, ← e, (hV (j / C) hdiv).2 (j % C) hmod]
      exact hu
    · intro x hx
      simp at hx
      obtain ⟨i, hi, rfl⟩ := hx
      exact (hV i hi).1

/-- The one-cell fields of a struct. -/
theorem trod_fields {t : TypeId} {fs : Array Field} {fuel : Nat} {cs : List Value} {x : DataW H × List MemPlace} (ht : P.underlying t = some (.struct fs)) (hone : oneCellFields P fs = true) (hC : P.cellsOf t = fs.size)
    (h : DataW.trod enc P W 0 (fun _ => true) true fuel t cs = some x) :
    cs.length = fs.size ∧ ∃ n, ∀ (j : Nat) (fd : Field), fs[j]? = some fd → ∃ v y, cs[j]? = some v ∧ DataW.trod enc P W 0 (fun _ => true) true n fd.type [v] = some y := by
  obtain ⟨xs, n, _, _, hlen, hxl, hf⟩ := DataW.trod_struct ht h
  refine ⟨hlen.trans hC, n, fun j fd hj => ?_⟩
  obtain ⟨ho, hk⟩ := hone_of hone j fd hj
  have hjl : j < fs.size := (Array.getElem?_eq_some_iff.1 hj).1
  have h1 := hf j fd hj
  rw [ho, hk] at h1
  have hjc : j < cs.length := by rw [hlen, hC]; exact hjl
  have hone' : (cs.drop j).take 1 = [cs[j]] := by rw [List.drop_eq_getElem_cons hjc]; rfl
  rw [hone', List.getElem?_eq_getElem (show j < xs.length by omega)] at h1
  exact ⟨_, _, List.getElem?_eq_getElem hjc, h1⟩

/-! ### bytes, numbers, rows of bytes -/
theorem open_bytes' {t e : TypeId} {a : Option Addr} {len cap fuel : Nat} {y : DataW H × List MemPlace} (ht : P.underlying t = some (.slice e)) (he : P.underlying e = some (.int .u8)) (hc : P.cellsOf e = 1)
    (h : DataW.trod enc P W 0 (fun _ => true) true fuel t [.slice a len cap] = some y) : ∃ l, Bs W a len cap l := by
  obtain ⟨L, _, hs, _⟩ := open_elems (α := UInt8) ht hc (by decide) h (fun x => [u8c x]) (fun _ => rfl) (fun _ => True) (fun n cs z hl hz => by
    obtain ⟨v, rfl, _, hw⟩ := DataW.trod_int he hz
    have := bounds_u8 hw
    exact ⟨UInt8.ofNat v.toNat, by rw [u8_of v (by omega) (by omega)], trivial⟩)
  refine ⟨L, ?_⟩
  have e : L.flatMap (fun x => [u8c x]) = L.map u8c := flat_one _ L
  rw [e] at hs
  exact hs
end
end Go.Proofs.YtcfbbgbjlgonpaaGreatDoor

/- Slices of structs: each element some cells. No condition. -/
namespace Go.Proofs.YtcfbbgbjlgonpaaGreatDoor
open Go.RowKit
set_option linter.unusedVariables false

/-- A string's value. -/
def strV (l : List UInt8) : Value := .string ⟨l.toArray⟩
/-- The slice's elements read as L, each in its cells 'f x'. -/
def Rs {α : Type} (f : α → List Value) (s : Nat) (w : World) (A : Option Addr) (n c : Nat) (L : List α) : Prop := L.length = n ∧ Sl w A n c s (L.flatMap f)
section
variable {α : Type} {f : α → List Value} {s : Nat} {w w' : World} {A : Option Addr} {n c : Nat} {L : List α}
theorem Rs.mono (h : Rs f s w A n c L) (hb : Below w.heap.size w w') : Rs f s w' A n c L := ⟨h.1, h.2.mono hb⟩
theorem Rs.cap (h : Rs f s w A n c L) : n ≤ c := h.2.cap
theorem Rs.max (h : Rs f s w A n c L) : c ≤ 9223372036854775807 := h.2.max
theorem Rs.row (h : Rs f s w A n c L) (hf : ∀ x, (f x).length = s) {k : Nat} (hk : k < n) :
    ∃ b o x, A = some ⟨b, o, none⟩ ∧ L[k]? = some x ∧ ∀ j u, (f x)[j]? = some u → w.cell? ⟨b, o + k * s + j, none⟩ = some u := by
  obtain ⟨hl, hs⟩ := h
  obtain ⟨b, o, e, hc⟩ := hs.addr (by omega)
  have hr : L[k]? = some (L[k]'(by omega)) := List.getElem?_eq_getElem (by omega)
  refine ⟨b, o, _, e, hr, fun j u hu => ?_⟩
  have hj : j < s := by have := (List.getElem?_eq_some_iff.1 hu).1; rw [hf] at this; exact this
  rw [Nat.add_assoc]
  exact hc _ _ ((flat_at hf L k j hj _ hr).trans hu)
theorem Own.rs {w0 : World} {e : TypeId} {v : Value} (h : Own w0 w e s v L.length (L.flatMap f)) : ∃ A c, v = .slice A L.length c ∧ Rs f s w A L.length c L := by
  obtain ⟨A, c, e, hs⟩ := h.slice
  exact ⟨A, c, e, rfl, hs⟩
end

/-! ### commits, operations -/
structure Cm where
  g : List UInt8
  e : Int
  i : List UInt8
instance : Inhabited Cm := ⟨⟨[], 0, []⟩⟩
def Cm.cells (x : Cm) : List Value := [strV x.g, .int .i64 x.e, strV x.i]
theorem Cm.cells_len (x : Cm) : x.cells.length = 3 := rfl
def Cm.ok (x : Cm) : Prop := x.g.length ≤ 9223372036854775807 ∧ x.i.length ≤ 9223372036854775807 ∧ -9223372036854775808 ≤ x.e ∧ x.e ≤ 9223372036854775807
theorem Cm.one (x : Cm) : ∀ u ∈ x.cells, u.oneCell' = true := by intro u hu; simp [Cm.cells, strV] at hu; rcases hu with rfl | rfl | rfl <;> rfl
def hit (g : List UInt8) (e : Int) (c : Cm) : Bool := c.g == g && c.e == e
end Go.Proofs.YtcfbbgbjlgonpaaGreatDoor



/- ObTermJ, ObTermK, ObTermL: one text. No condition. -/
/- The reference's table of terms: is an id. No condition. -/
namespace Go.Proofs.YtcfbbgbjlgonpaaGreatDoor
open Go.RowKit Go.Maps
set_option linter.unusedVariables false

theorem refThere_any (A : Option Addr) (n c : Nat) (id : Int) (w : World) :
    Calls Tryz.prog 110 #[.slice A n c, .int .i64 id] w fun e w' => e = .returned (.bool (!outside n id)) ∧ w' = w := by
  have e0 : (!outside n id) = (decide (1 ≤ id) && decide (id ≤ (n : Int))) := by
    unfold outside
    rw [Bool.not_or, ← decide_not, ← decide_not]
    congr 1 <;> (rw [decide_eq_decide]; omega)
  rw [e0]
  cases h1 : decide (1 ≤ id) <;> cases h2 : decide (id ≤ (n : Int))
  all_goals
    go_enter Tryz.func110, Tryz.ntmps110
    go_wp2_with fail
    go_ret
    exact ⟨rfl, rfl⟩
/-- A node of the reference's table. -/
def Nd.node (x : Nd) : List Value := [.int .i64 (x.k : Int), .int .i64 (x.a : Int), .int .i64 (x.b : Int), .string x.s, .int .i64 (x.n : Int)]
theorem Nd.node_len (x : Nd) : x.node.length = 5 := rfl
abbrev RTb (w : World) (A : Option Addr) (n c : Nat) (T : List Nd) : Prop := Rs Nd.node 5 w A n c T
theorem RTb.row {w : World} {A : Option Addr} {n c : Nat} {T : List Nd} (h : RTb w A n c T) {k : Nat} (hk : k < n) :
    ∃ b o x, A = some ⟨b, o, none⟩ ∧ T[k]? = some x ∧ w.cell? ⟨b, o + k * 5, none⟩ = some (.int .i64 (x.k : Int)) ∧ w.cell? ⟨b, o + k * 5 + 1, none⟩ = some (.int .i64 (x.a : Int)) ∧ w.cell? ⟨b, o + k * 5 + 2, none⟩ = some (.int .i64 (x.b : Int)) ∧
      w.cell? ⟨b, o + k * 5 + 3, none⟩ = some (.string x.s) ∧ w.cell? ⟨b, o + k * 5 + 4, none⟩ = some (.int .i64 (x.n : Int)) := by
  obtain ⟨b, o, x, e, hx, hc⟩ := Rs.row h Nd.node_len hk
  exact ⟨b, o, x, e, hx, hc 0 _ rfl, hc 1 _ rfl, hc 2 _ rfl, hc 3 _ rfl, hc 4 _ rfl⟩
theorem refKind_any (A : Option Addr) (n c : Nat) (T : List Nd) (id : Int) (w : World) (h : RTb w A n c T) :
    Calls Tryz.prog 71 #[.slice A n c, .int .i64 id] w fun e w' => e = .returned (.int .i64 (kindOf T id : Int)) ∧ w' = w := by
  have hl : T.length = n := h.1
  have hm := Nat.le_trans h.cap h.max
  have HR := Lib.hid (refThere_any A n c id w)
  unfold kindOf
  rw [hl]
  cases ho : outside n id with
  | true =>
    rw [ho] at HR
    clear h hl hm
    go_enter Tryz.func71, Tryz.ntmps71
    go_wp2_with fail
    refine HR.out.mono ?_
    rintro e w1 ⟨rfl, rfl⟩
    go_wp2_with fail
    go_ret
    exact ⟨rfl, rfl⟩
  | false =>
    rw [ho] at HR
    have hin : 1 ≤ id ∧ id ≤ n := by unfold outside at ho; simp at ho; omega
    obtain ⟨k, rfl⟩ : ∃ k : Nat, id = (k : Int) + 1 := ⟨(id - 1).toNat, by omega⟩
    have hk : k < n := by omega
    obtain ⟨b, o, x, rfl, hx, c0, _, _, _, _⟩ := h.row hk
    have ek : ((k : Int) + 1).toNat - 1 = k := by omega
    rw [ek, hx]
    have hw : IntKind.i64.wrap ((k : Int) + 1 - 1) = k := by rw [IntWalk.i64_in _ (by omega)]; omega
    have hw2 : wrap64 (k : Int) = k := IntWalk.wrap64_in _ ⟨by omega, by omega⟩
    clear h hl hin ek ho
    go_enter Tryz.func71, Tryz.ntmps71
    go_wp2_with fail
    refine HR.out.mono ?_
    rintro e w1 ⟨rfl, rfl⟩
    go_wp2_with fail
    go_ret
    exact ⟨rfl, rfl⟩
end Go.Proofs.YtcfbbgbjlgonpaaGreatDoor
/- The reference's table of terms: the parts. No condition. -/
namespace Go.Proofs.YtcfbbgbjlgonpaaGreatDoor
open Go.RowKit Go.Maps
set_option linter.unusedVariables false

set_option maxHeartbeats 1000000 in
theorem refParts_any (A : Option Addr) (n c : Nat) (T : List Nd) (id : Int) (w : World) (h : RTb w A n c T) (hK : Kinds T) :
    Calls Tryz.prog 104 #[.slice A n c, .int .i64 id] w fun e w' => RetInts w ((partsOf T id).map Int.ofNat) e w' := by
  have hl : T.length = n := h.1
  have hm := Nat.le_trans h.cap h.max
  have HR := Lib.hid (refThere_any A n c id w)
  unfold partsOf
  rw [hl]
  cases ho : outside n id with
  | true =>
    rw [ho] at HR
    clear h hl hm
    go_enter Tryz.func104, Tryz.ntmps104
    go_wp2_with fail
    refine HR.out.mono ?_
    rintro e w1 ⟨rfl, rfl⟩
    go_wp2_with fail
    go_ret
    exact ⟨none, 0, rfl, Sl.nil _ _, Gr.refl _, Fresh.nil _, .inl rfl⟩
  | false =>
    rw [ho] at HR
    have hin : 1 ≤ id ∧ id ≤ n := by unfold outside at ho; simp at ho; omega
    obtain ⟨k, rfl⟩ : ∃ k : Nat, id = (k : Int) + 1 := ⟨(id - 1).toNat, by omega⟩
    have hk : k < n := by omega
    obtain ⟨b, o, x, rfl, hx, c0, c1, c2, c3, c4⟩ := h.row hk
    have ek : ((k : Int) + 1).toNat - 1 = k := by omega
    have hkx := hK x (List.mem_of_getElem? hx)
    rw [ek, hx]
    have hw : IntKind.i64.wrap ((k : Int) + 1 - 1) = k := by rw [IntWalk.i64_in _ (by omega)]; omega
    have hw2 : wrap64 (k : Int) = k := IntWalk.wrap64_in _ ⟨by omega, by omega⟩
    have N1 : Hid (∀ (W : World) (o : Obj) (x : Int), Is ((W.alloc o).alloc (.cells #[.int .i64 x] 3)) (some ⟨W.heap.size + 1, 0, none⟩) 1 1 [x]) := fun W o x => by have h := is_one (W.alloc o) x; rw [show (W.alloc o).heap.size = W.heap.size + 1 by simp] at h; exact h
    have N2 : Hid (∀ (W : World) (o : Obj) (x y : Int), Is ((W.alloc o).alloc (.cells #[.int .i64 x, .int .i64 y] 3)) (some ⟨W.heap.size + 1, 0, none⟩) 2 2 [x, y]) := fun W o x y => by have h := is_two (W.alloc o) x y; rw [show (W.alloc o).heap.size = W.heap.size + 1 by simp] at h; exact h
    clear h hl hin ek ho hK hx
    obtain ⟨xk, xa, xb, xs, xn⟩ := x
    simp only at c0 c1 c2 c3 c4 hkx
    have hkk : xk = 1 ∨ xk = 2 ∨ xk = 3 ∨ xk = 4 ∨ xk = 5 := by omega
    rcases hkk with rfl | rfl | rfl | rfl | rfl
    all_goals
      go_enter Tryz.func104, Tryz.ntmps104
      go_wp2_with fail
      refine HR.out.mono ?_
      rintro e w1 ⟨rfl, rfl⟩
      go_wp2_with fail
      go_ret
    · exact ⟨none, 0, rfl, Sl.nil _ _, Gr.refl _, Fresh.nil _, .inl rfl⟩
    · exact ⟨none, 0, rfl, Sl.nil _ _, Gr.refl _, Fresh.nil _, .inl rfl⟩
    · exact ⟨_, _, rfl, N1.out _ _ _, (Gr.alloc _ _).trans (Gr.alloc _ _), Fresh.mk1 (Gr.refl _) 1, OwnI.one _ _ _⟩
    · exact ⟨_, _, rfl, N2.out _ _ _ _, (Gr.alloc _ _).trans (Gr.alloc _ _), Fresh.mk1 (Gr.refl _) 1, OwnI.two _ _ _ _⟩
    · exact ⟨_, _, rfl, N2.out _ _ _ _, (Gr.alloc _ _).trans (Gr.alloc _ _), Fresh.mk1 (Gr.refl _) 1, OwnI.two _ _ _ _⟩
end Go.Proofs.YtcfbbgbjlgonpaaGreatDoor
/- The reference's table of terms: a new atom. No condition. -/
namespace Go.Proofs.YtcfbbgbjlgonpaaGreatDoor
open Go.RowKit Go.Maps
set_option linter.unusedVariables false

/-- The number of atoms among the first. -/
theorem atoms_next (T : List Nd) (k : Nat) (x : Nd) (hx : T[k]? = some x) : atomsOf (T.take (k + 1)) = if x.k = 1 then atomsOf (T.take k) + 1 else atomsOf (T.take k) := by
  have hk : k < T.length := (List.getElem?_eq_some_iff.1 hx).1
  rw [List.take_succ_eq_append_getElem hk]
  rw [List.getElem?_eq_getElem hk] at hx
  injection hx with hx
  rw [hx]
  unfold atomsOf
  rw [List.filter_append, List.length_append]
  by_cases h : x.k = 1 <;> simp [h]
theorem tNode : ElemT Tryz.prog 30 134 (.agg #[.int .i64 0, .int .i64 0, .int .i64 0, .string ⟨#[]⟩, .int .i64 0]) 5 48 := ⟨Tryz.underlying30, by kernel_rfl, rfl, by decide, by decide⟩
abbrev RTo (w0 w : World) (v : Value) (T : List Nd) : Prop := Own w0 w 134 5 v T.length (T.flatMap Nd.node)
/-- Only v's own row has turned; v' lies where v lay, or in new memory. -/
structure Turn1 (w w' : World) (v v' : Value) : Prop where
  size : w.heap.size ≤ w'.heap.size
  keep : ∀ b, b < w.heap.size → v.ownBlock ≠ some b → w'.heap[b]? = w.heap[b]?
  own : ∀ b, v'.ownBlock = some b → v.ownBlock = some b ∨ w.heap.size ≤ b
theorem Turn1.gr {w w' : World} (hg : Gr w w') (v : Value) : Turn1 w w' v v := ⟨hg.size, fun b hb _ => hg.block b hb, fun b h => .inl h⟩
theorem Turn1.of {w w' : World} {v v' : Value} (h : Kept w w' v v') : Turn1 w w' v v' := ⟨h.2.1, h.1, fun b hb => by
  rcases h.2.2 with q | q
  · rw [q] at hb; exact .inl hb
  · rw [q] at hb; injection hb with hb; exact .inr (by omega)⟩
theorem Turn1.trans {w w' w'' : World} {v v' v'' : Value} (h : Turn1 w w' v v') (k : Turn1 w' w'' v' v'') : Turn1 w w'' v v'' := by
  refine ⟨Nat.le_trans h.size k.size, fun b hb hn => ?_, fun b hb => ?_⟩
  · refine (k.keep b (Nat.lt_of_lt_of_le hb h.size) (fun e => ?_)).trans (h.keep b hb hn)
    rcases h.own b e with q | q
    · exact hn q
    · omega
  · rcases k.own b hb with q | q
    · exact h.own b q
    · exact .inr (Nat.le_trans h.size q)
theorem wpList_pushAtG {P : Program} {ops : Array Oper} {rest : List Oper} {o : Oper} {a : Act} {Q : Exit → Act → World → Prop} (hgd : o.guard = none) (s x : Operand) (t : TypeId)
    (ho : o.op = .call { callee := .builtin .append, args := #[s, x], argTypes := #[t, t] })
    {e : TypeId} {z : Value} {size bytes : Nat} (ht : ElemT P t e z size bytes) {w0 w : World} {v : Value} {n : Nat} {xs : List Value} (hs : a.eval s = v) (hown : Own w0 w e size v n xs)
    (g : Nat) (hg : g = w.heap.size) (cs : Array Value) (hx : a.eval x = .slice (some ⟨g, 0, none⟩) 1 1) (hl : cs.size = size) (h1 : ∀ u ∈ cs.toList, u.oneCell' = true)
    (hroom : (n + 1) * bytes ≤ 140737488355328)
    (h : ∀ v' w', Own w0 w' e size v' (n + 1) (xs ++ cs.toList) → Turn1 w w' v v' → wpList P ops Q rest (a.put o.dst v') w') : wpList P ops Q (o :: rest) a (w.alloc (.cells cs e)) := by
  subst hg
  exact wpList_pushG hgd s x t ho ht hs hown cs hx hl h1 hroom fun v' w' h2 h3 => h v' w' h2 ((Turn1.gr (Gr.alloc w _) v).trans (Turn1.of h3))
set_option maxHeartbeats 1000000 in
theorem refAtom_any (w0 : World) (T : List Nd) (v : Value) (w : World) (h : RTo w0 w v T) (hn' : T.length ≤ 1000) :
    Calls Tryz.prog 98 #[v] w fun e w' => ∃ v', e = .returned (.tuple #[v', .int .i64 ((T.length : Int) + 1)]) ∧ RTo w0 w' v' (atomT T).1 ∧ Turn1 w w' v v' := by
  obtain ⟨A, c, rfl, hr⟩ := Own.rs h
  have HO := Lib.hid h
  obtain ⟨n, hl⟩ : ∃ n, n = T.length := ⟨_, rfl⟩
  have hn : n ≤ 1000 := by omega
  have HL := Lib.hid hl
  rw [← hl] at HO hr ⊢
  have HH := Lib.hid hr
  clear h hr hl hn'
  have N1 : Hid (∀ m : Int, ∀ u ∈ (#[.int .i64 1, .int .i64 0, .int .i64 0, .string ⟨#[]⟩, .int .i64 m] : Array Value).toList, u.oneCell' = true) := fun m u hu => by simp at hu; rcases hu with rfl | rfl | rfl | rfl <;> rfl
  go_enter Tryz.func98, Tryz.ntmps98
  go_wp2_with fail
  go_loop [4, 5] (fun v i => ∃ k : Nat, k ≤ n ∧ i = .int .i64 k ∧ v = .int .i64 (atomsOf (T.take k) : Int)) (fun v i => n - (Go.RowKit.intOf i).toNat)
  case atStart => exact ⟨0, Nat.zero_le _, rfl, rfl⟩
  case round =>
    obtain ⟨k, hk, rfl, rfl⟩ := hrel
    by_cases hlt : k < n
    · obtain ⟨b, o, x, rfl, hx, c0, _, _, _, _⟩ := RTb.row HH.out hlt
      have HN := Lib.hid (atoms_next T k x hx)
      have hle := Nat.le_trans (atoms_le (T.take k)) (List.length_take_le k T)
      obtain ⟨m, hm⟩ : ∃ m, m = atomsOf (T.take k) := ⟨_, rfl⟩
      rw [← hm] at HN hle ⊢
      have HM := Lib.hid hm; clear hm hx
      have w1 : IntKind.i64.wrap ((k : Int) + 1) = (k : Int) + 1 := IntWalk.i64_in _ (by omega)
      have w2 : IntKind.i64.wrap ((m : Int) + 1) = (m : Int) + 1 := IntWalk.i64_in _ (by omega)
      have t0 : decide ((k : Int) < (n : Int)) = true := by simp; omega
      by_cases h1 : x.k = 1
      · have HN1 := Lib.hid (HN.out.trans (if_pos h1))
        rw [h1] at c0
        go_wp2_with fail
        refine ⟨⟨k + 1, hlt, by simp, by rw [HN1.out]; simp⟩, ?_⟩
        simp [Go.RowKit.intOf]; omega
      · have HN1 := Lib.hid (HN.out.trans (if_neg h1))
        have t1 : decide ((x.k : Int) = 1) = false := by simp; omega
        go_wp2_with fail
        refine ⟨⟨k + 1, hlt, by simp, by rw [HN1.out]⟩, ?_⟩
        simp [Go.RowKit.intOf]; omega
    · obtain rfl : k = n := by omega
      have t0 : decide ((k : Int) < (k : Int)) = false := by simp
      have w1 : IntKind.i64.wrap ((k : Int) + 1) = (k : Int) + 1 := IntWalk.i64_in _ (by omega)
      have N2 : Hid (∀ m : Int, ∀ u ∈ ([.int .i64 1, .int .i64 0, .int .i64 0, .string ⟨#[]⟩, .int .i64 m] : List Value), u.oneCell' = true) := fun m u hu => by simp at hu; rcases hu with rfl | rfl | rfl | rfl <;> rfl
      have HO3 := HO.out
      unfold RTo at HO3
      rw [← HL.out] at HO3
      have HO4 := Lib.hid HO3; clear HO3
      go_wp2_with (at_builtin; go_loud (refine wpList_pushAtG rfl _ _ 30 rfl tNode rfl HO4.out _ (by simp) #[_, _, _, _, _] rfl rfl (N1.out _) (by omega) ?_); intro v1 w3 own1 tn1)
      go_ret2
      refine ⟨v1, rfl, ?_, tn1⟩
      have hl := HL.out
      have ht : T.take k = T := by rw [hl]; exact List.take_length
      rw [ht] at own1
      have e1 : (atomT T).1.length = k + 1 := by unfold atomT; simp; omega
      unfold RTo
      rw [e1]
      have e2 : (atomT T).1.flatMap Nd.node = T.flatMap Nd.node ++ [.int .i64 1, .int .i64 0, .int .i64 0, .string ⟨#[]⟩, .int .i64 (atomsOf T : Int)] := by unfold atomT; rw [List.flatMap_append]; rfl
      rw [e2]
      exact own1
end Go.Proofs.YtcfbbgbjlgonpaaGreatDoor

/- What the rows' frames tell of acts that came in. No condition. -/
namespace Go.Proofs.YtcfbbgbjlgonpaaGreatDoor
open Go.RowKit Go.ChangeShapes Go.WideShapes Go.Deep
set_option linter.unusedVariables false
def In64 (n : Int) : Prop := -9223372036854775808 ≤ n ∧ n ≤ 9223372036854775807
section
variable {H : Type} {enc : TypeId × Value → H} {P : Program} {W : World}
end
end Go.Proofs.YtcfbbgbjlgonpaaGreatDoor
