/- Own texts of this claim, one behind the other. No condition. -/
import Derived.WalkKit
import Derived.Lib.Hide
import Derived.Deep.Draws
import Derived.Maps.AppendAt
import Derived.OpenShut
import Derived.Laws.BitsAllLaws
import Derived.Test.YtadenlhnfkccaaaGreatDoorProg
import Derived.Outline
import Derived.Deep.QuietTactic
import Derived.BigQuiet
import Derived.Lib.IndexLaws
import Derived.Lib.ValidU

/- Plain words on memory, and two laws on append and make, kept along the ways that a call takes. No condition. -/
namespace Go.Proofs.YtadenlhnfkccaaaGreatDoor
open Go.RowKit
set_option linter.unusedVariables false

theorem wrap_u64 {x : Int} (h : 0 ≤ x) (h' : x < 18446744073709551616) : IntKind.u64.wrap x = x := by
  rw [IntKind.wrap_u64]; omega
theorem wrap_u8 {x : Int} (h : 0 ≤ x) (h' : x < 256) : IntKind.u8.wrap x = x := by
  rw [IntKind.wrap_u8]; omega

theorem ret_bool {a b : Bool} (h : a = b) : Ending.returned (.bool a) = .returned (.bool b) := by rw [h]
theorem ret_int {k : IntKind} {a b : Int} (h : a = b) : Ending.returned (.int k a) = .returned (.int k b) := by rw [h]

theorem belowN {B : Nat} {a w : World} (h : Below B a w) (n : Nat) : Below B a (w.drewN n) := h.trans ⟨rfl, rfl, rfl, Nat.le_refl _, fun _ _ => rfl⟩
theorem below_both {a b c : World} (h : Below a.heap.size a b) (k : Below b.heap.size b c) : Below a.heap.size a c := h.trans (k.mono h.size)

/-! ### a slice that reads as cells -/

/-- The slice's value '.slice A n c' of elements of 'size' cells reads as the cells xs. -/
def Sl (w : World) (A : Option Addr) (n c size : Nat) (xs : List Value) : Prop :=
  xs.length = n * size ∧ n ≤ c ∧ c ≤ maxLen ∧ (0 < n → ∃ b o, A = some ⟨b, o, none⟩ ∧ ∀ j u, xs[j]? = some u → w.cell? ⟨b, o + j, none⟩ = some u)

section
variable {w w' : World} {A : Option Addr} {n c size : Nat} {xs : List Value}
theorem Sl.nil (w : World) (size : Nat) : Sl w none 0 0 size [] := ⟨by simp, Nat.le_refl _, Nat.zero_le _, fun h => absurd h (by omega)⟩
theorem Sl.mono (h : Sl w A n c size xs) (hb : Below w.heap.size w w') : Sl w' A n c size xs := by
  obtain ⟨h1, h2, h3, h4⟩ := h
  refine ⟨h1, h2, h3, fun hn => ?_⟩
  obtain ⟨b, o, rfl, hc⟩ := h4 hn
  refine ⟨b, o, rfl, fun j u hu => ?_⟩
  have h := hc j u hu
  rw [hb.cell (World.block_lt_of_cell? w _ h)]
  exact h
theorem Sl.keep (h : Sl w A n c size xs) (hk : ∀ p : Addr, ∀ u, w.cell? p = some u → w'.cell? p = some u) : Sl w' A n c size xs := by
  obtain ⟨h1, h2, h3, h4⟩ := h
  refine ⟨h1, h2, h3, fun hn => ?_⟩
  obtain ⟨b, o, rfl, hc⟩ := h4 hn
  exact ⟨b, o, rfl, fun j u hu => hk _ _ (hc j u hu)⟩
theorem Sl.len (h : Sl w A n c 1 xs) : xs.length = n := by have := h.1; omega
theorem Sl.cap (h : Sl w A n c size xs) : n ≤ c := h.2.1
theorem Sl.max (h : Sl w A n c size xs) : c ≤ 9223372036854775807 := h.2.2.1
theorem Sl.addr (h : Sl w A n c size xs) (hn : 0 < n) : ∃ b o, A = some ⟨b, o, none⟩ ∧ ∀ j u, xs[j]? = some u → w.cell? ⟨b, o + j, none⟩ = some u := h.2.2.2 hn
end

/-! ### bytes -/

/-- The j-th byte, as a number. -/
def bAt (l : List UInt8) (j : Nat) : Int := ((l.getD j 0).toNat : Int)
theorem bAt_nn (l : List UInt8) (j : Nat) : 0 ≤ bAt l j := by unfold bAt; omega
theorem bAt_lt (l : List UInt8) (j : Nat) : bAt l j < 256 := by unfold bAt; have := (l.getD j 0).toNat_lt; omega
/-- A byte's cell. -/
def u8c (c : UInt8) : Value := .int .u8 (c.toNat : Int)
abbrev Bs (w : World) (A : Option Addr) (n c : Nat) (l : List UInt8) : Prop := Sl w A n c 1 (l.map u8c)
theorem u8c_at {l : List UInt8} {j : Nat} (h : j < l.length) : (l.map u8c)[j]? = some (.int .u8 (bAt l j)) := by
  simp [h, u8c, bAt]
theorem Bs.len {w : World} {A : Option Addr} {n c : Nat} {l : List UInt8} (h : Bs w A n c l) : l.length = n := by have := Sl.len h; simpa using this
theorem Bs.addr {w : World} {A : Option Addr} {n c : Nat} {l : List UInt8} (h : Bs w A n c l) (hn : 0 < n) :
    ∃ b o, A = some ⟨b, o, none⟩ ∧ ∀ j, j < n → w.cell? ⟨b, o + j, none⟩ = some (.int .u8 (bAt l j)) := by
  obtain ⟨b, o, e, hc⟩ := Sl.addr h hn
  exact ⟨b, o, e, fun j hj => hc j _ (u8c_at (by rw [h.len]; exact hj))⟩
theorem u8_of (e : Int) (h0 : 0 ≤ e) (h1 : e < 256) : Value.int .u8 e = u8c (UInt8.ofNat e.toNat) := by
  unfold u8c
  rw [UInt8.toNat_ofNat_of_lt' (by show e.toNat < 256; omega)]
  congr 1
  omega

/-- What the row's frame tells of a slice of bytes that came in. -/
theorem bs_of_row {w : World} {a : Option Addr} {len cap : Nat} {zs : List Int}
    (h : (a = none ∧ len = 0 ∧ cap = 0 ∧ zs = []) ∨
      ∃ x, a = some x ∧ len ≤ cap ∧ cap ≤ maxLen ∧ zs.length = cap ∧ (∀ i, i < zs.length → w.cell? (x.add i) = some (.int .u8 (zs.getD i 0))) ∧ ∀ n ∈ zs, (Lit.int .u8 n).wf = true) :
    ∃ l, Bs w a len cap l := by
  rcases h with ⟨rfl, rfl, rfl, rfl⟩ | ⟨x, rfl, hl, hm, hz, hc, hw⟩
  · exact ⟨[], Sl.nil _ _⟩
  · refine ⟨(zs.take len).map (fun z => UInt8.ofNat z.toNat), by simp [hz]; omega, hl, hm, fun hn => ?_⟩
    have h0 := hc 0 (by omega)
    obtain ⟨b, o, sp⟩ := x
    have hsp : sp = none := by simpa [Addr.add] using World.cell?_spot h0
    subst hsp
    refine ⟨b, o, rfl, fun j u hu => ?_⟩
    have hj : j < len := by
      have := (List.getElem?_eq_some_iff.1 hu).1
      simp at this
      omega
    have hcj := hc j (by omega)
    have hmem : zs.getD j 0 ∈ zs := by
      rw [List.getD_eq_getElem?_getD, List.getElem?_eq_getElem (by omega)]
      exact List.getElem_mem _
    have hwf := hw _ hmem
    have hb : 0 ≤ zs.getD j 0 ∧ zs.getD j 0 < 256 := by
      have h := bounds_u8 hwf
      omega
    have he : (Addr.mk b o none).add j = ⟨b, o + j, none⟩ := by
      unfold Addr.add
      split <;> simp_all
    rw [he] at hcj
    rw [hcj, u8_of _ hb.1 hb.2]
    have : ((zs.take len).map (fun z => UInt8.ofNat z.toNat)).map u8c = (zs.take len).map (fun z => u8c (UInt8.ofNat z.toNat)) := List.map_map ..
    rw [this, List.getElem?_map, List.getElem?_take_of_lt hj] at hu
    rw [List.getElem?_eq_getElem (by omega)] at hu
    simp at hu
    rw [← hu]
    simp [List.getD_eq_getElem?_getD, List.getElem?_eq_getElem (show j < zs.length by omega)]

/-! ### lists of elements of several cells -/
section
variable {α : Type} {s : Nat} {f : α → List Value}
theorem flat_length (hf : ∀ x, (f x).length = s) (L : List α) : (L.flatMap f).length = L.length * s := by
  induction L with
  | nil => simp
  | cons x L ih => simp [ih, hf, Nat.add_mul, Nat.add_comm]
theorem flat_at (hf : ∀ x, (f x).length = s) (L : List α) (i j : Nat) (hj : j < s) (x : α) (hx : L[i]? = some x) : (L.flatMap f)[i * s + j]? = (f x)[j]? := by
  induction L generalizing i with
  | nil => simp at hx
  | cons y L ih =>
    rw [List.flatMap_cons]
    cases i with
    | zero =>
      simp at hx
      subst hx
      rw [Nat.zero_mul, Nat.zero_add, List.getElem?_append_left (by rw [hf]; exact hj)]
    | succ i =>
      rw [List.getElem?_append_right (by rw [hf, Nat.add_mul]; omega), hf]
      have : (i + 1) * s + j - s = i * s + j := by rw [Nat.add_mul]; omega
      rw [this]
      exact ih i (by simpa using hx)
end
theorem flat_one {α : Type} (g : α → Value) (L : List α) : L.flatMap (fun x => [g x]) = L.map g := by induction L <;> simp_all
theorem add_flat (b o j : Nat) : (Addr.mk b o none).add j = ⟨b, o + j, none⟩ := by unfold Addr.add; split <;> simp_all

/-- A slice's value, and the bytes that it reads as. -/
structure BRow where
  a : Option Addr
  n : Nat
  c : Nat
  l : List UInt8
instance : Inhabited BRow := ⟨⟨none, 0, 0, []⟩⟩
def BRow.v (r : BRow) : Value := .slice r.a r.n r.c
/-- A slice of slices of bytes: each row's value and bytes. -/
def Bss (w : World) (A : Option Addr) (n c : Nat) (L : List BRow) : Prop := Sl w A n c 1 (L.map BRow.v) ∧ ∀ r ∈ L, Bs w r.a r.n r.c r.l
/-! ### numbers -/
def iAt (l : List Int) (j : Nat) : Int := l.getD j 0
def i64c (n : Int) : Value := .int .i64 n
abbrev Is (w : World) (A : Option Addr) (n c : Nat) (l : List Int) : Prop := Sl w A n c 1 (l.map i64c)

theorem one_int (k : IntKind) (x : Int) : ∀ u ∈ [Value.int k x], u.oneCell' = true := by intro u hu; simp at hu; subst hu; rfl
/-! ### what the call itself makes -/

/-- A slice's value of the call's own (it began at w0): n elements, the cells xs; nothing that was there has turned. -/
def Own (w0 w : World) (e : TypeId) (size : Nat) (v : Value) (n : Nat) (xs : List Value) : Prop :=
  w.ownsRow w0.heap.size e size v n xs ∧ Below w0.heap.size w0 w

/-- What is known of an element's type e, of a slice's type t. -/
structure ElemT (P : Program) (t e : TypeId) (z : Value) (size bytes : Nat) : Prop where
  und : P.underlying t = some (.slice e)
  info : (P.info? e).map (fun i => (i.zero, i.size, i.bytes)) = some (some z, size, bytes)
  cells : z.cells.size = size
  pos : 0 < size
  bpos : 0 < bytes

section
variable {w0 w w' : World} {e : TypeId} {size n : Nat} {v : Value} {xs : List Value}
theorem Own.nil (w : World) (e : TypeId) (size : Nat) : Own w w e size (.slice none 0 0) 0 [] := ⟨World.ownsRow_nil _ _ _ _, Below.refl _ _⟩
theorem Own.nil' (hb : Below w0.heap.size w0 w) (e : TypeId) (size : Nat) : Own w0 w e size (.slice none 0 0) 0 [] := ⟨World.ownsRow_nil _ _ _ _, hb⟩
theorem Own.below (h : Own w0 w e size v n xs) : Below w0.heap.size w0 w := h.2
theorem Own.size_le (h : Own w0 w e size v n xs) : w0.heap.size ≤ w.heap.size := h.2.size
/-- Behind a call that only makes memory. -/
theorem Own.mono (h : Own w0 w e size v n xs) (hb : Below w.heap.size w w') : Own w0 w' e size v n xs := by
  refine ⟨⟨h.1.1, ?_⟩, h.2.trans (hb.mono h.2.size)⟩
  rcases h.1.2 with h | ⟨g, cap, cur, hv, hg, hh, r⟩
  · exact .inl h
  · exact .inr ⟨g, cap, cur, hv, hg, by rw [hb.block g (Array.getElem?_eq_some_iff.1 hh).1]; exact hh, r⟩
theorem Own.slice (h : Own w0 w e size v n xs) : ∃ A c, v = .slice A n c ∧ Sl w A n c size xs := by
  obtain ⟨⟨hl, h⟩, _⟩ := h
  rcases h with ⟨rfl, rfl⟩ | ⟨g, cap, cur, rfl, hg, hh, hn, hc, hs, ht⟩
  · refine ⟨none, 0, rfl, hl, Nat.le_refl _, Nat.zero_le _, fun h => absurd h (by omega)⟩
  · refine ⟨_, cap, rfl, hl, hn, hc, fun _ => ⟨g, 0, rfl, fun j u hu => ?_⟩⟩
    have hj : j < xs.length := (List.getElem?_eq_some_iff.1 hu).1
    rw [← ht, List.getElem?_take_of_lt (by omega)] at hu
    simp only [World.cell?, hh, Nat.zero_add]
    simpa using hu
end

theorem Own.alloc {w0 w : World} {e : TypeId} {size n : Nat} {v : Value} {xs : List Value} (h : Own w0 w e size v n xs) (o : Obj) : Own w0 (w.alloc o) e size v n xs := h.mono ((Below.refl _ _).alloc (Nat.le_refl _) _)
theorem Own.drew {w0 w : World} {e : TypeId} {size n : Nat} {v : Value} {xs : List Value} (h : Own w0 w e size v n xs) : Own w0 w.drew e size v n xs := h.mono (Below.refl _ _).drew
theorem Own.drewN {w0 w : World} {e : TypeId} {size n : Nat} {v : Value} {xs : List Value} (h : Own w0 w e size v n xs) (q : Nat) : Own w0 (w.drewN q) e size v n xs := h.mono (belowN (Below.refl _ _) q)

/-- 'append(s, x)' in whatever world: s the call's own, x's cells laid at the head of a block. -/
theorem wp_push {P : Program} {o : Oper} {a : Act} {K : Act → World → Prop} {Q : Exit → Act → World → Prop} (s x : Operand) (t : TypeId)
    (ho : o.op = .call { callee := .builtin .append, args := #[s, x], argTypes := #[t, t] })
    {e : TypeId} {z : Value} {size bytes : Nat} (ht : ElemT P t e z size bytes) {w0 w : World} {v : Value} {n : Nat} {xs : List Value} (hs : a.eval s = v) (hown : Own w0 w e size v n xs)
    (g c : Nat) (cs : List Value) (hx : a.eval x = .slice (some ⟨g, 0, none⟩) 1 c) (hl : cs.length = size) (h1 : ∀ u ∈ cs, u.oneCell' = true)
    (hc : ∀ j u, cs[j]? = some u → w.cell? ⟨g, j, none⟩ = some u)
    (hroom : (n + 1) * bytes ≤ 140737488355328)
    (h : ∀ v' w', Own w0 w' e size v' (n + 1) (xs ++ cs) → K (a.put o.dst v') w') : o.wp P a w K Q := by
  obtain ⟨i, hi, hz, hsz, hby⟩ := info_parts ht.info
  have hb1 : n + 1 ≤ (n + 1) * bytes := Nat.le_mul_of_pos_right _ ht.bpos
  obtain ⟨v', w', hrun, h2, h3, _, _⟩ := run_append_own_at (P := P) w w0.heap.size t o.type e i z size bytes ht.und hi hz hsz hby ht.cells ht.pos v n xs hown.1 ⟨g, 0, none⟩ 1 c cs (by simp [hl])
    (fun j u hu => by
      have he : (Addr.mk g 0 none).add j = ⟨g, j, none⟩ := by unfold Addr.add; split <;> simp_all
      rw [he]; exact hc j u hu) h1 (by simp only [maxLen]; omega) hroom hown.2.size
  unfold Oper.wp execOp
  simp only [ho, resolve, invoke, builtin, Sem.run_bind, Sem.run_pure, Result.andThen_ok, List.map_toArray, List.map_cons, List.map_nil, hs, hx, hrun]
  exact h v' w' ⟨h2, hown.2.grown h3 hown.2.size (fun k hk => (hown.1.lt k hk).1)⟩

/-- 'append(s, x)': s the call's own, x laid in a new block just before. -/
theorem wpList_push {P : Program} {ops : Array Oper} {rest : List Oper} {o : Oper} {a : Act} {Q : Exit → Act → World → Prop} (hgd : o.guard = none) (s x : Operand) (t : TypeId)
    (ho : o.op = .call { callee := .builtin .append, args := #[s, x], argTypes := #[t, t] })
    {e : TypeId} {z : Value} {size bytes : Nat} (ht : ElemT P t e z size bytes) {w0 w : World} {v : Value} {n : Nat} {xs : List Value} (hs : a.eval s = v) (hown : Own w0 w e size v n xs)
    (cs : Array Value) (hx : a.eval x = .slice (some ⟨w.heap.size, 0, none⟩) 1 1) (hl : cs.size = size) (h1 : ∀ u ∈ cs.toList, u.oneCell' = true)
    (hroom : (n + 1) * bytes ≤ 140737488355328)
    (h : ∀ v' w', Own w0 w' e size v' (n + 1) (xs ++ cs.toList) → wpList P ops Q rest (a.put o.dst v') w') : wpList P ops Q (o :: rest) a (w.alloc (.cells cs e)) :=
  wpList_plain hgd fun _ hK => wp_push s x t ho ht hs (hown.alloc _) w.heap.size 1 cs.toList hx (by simpa using hl) h1 (fun j u hu => by
    have hj : (w.alloc (.cells cs e)).heap[w.heap.size]? = some (.cells cs e) := heap_alloc_new w _
    simp only [World.cell?, hj]
    simpa using hu) hroom fun v' w' h2 => hK _ _ (h v' w' h2)

/-- .. as one step of a region that draws its order, in whatever world. -/
theorem step_push {P : Program} {ops : Array Oper} {o : Oper} {a : Act} {K : Act → World → Prop} {Q : Exit → Act → World → Prop} {E : Prop} (hgd : o.guard = none) (s x : Operand) (t : TypeId)
    (ho : o.op = .call { callee := .builtin .append, args := #[s, x], argTypes := #[t, t] })
    {e : TypeId} {z : Value} {size bytes : Nat} (ht : ElemT P t e z size bytes) {w0 w : World} {v : Value} {n : Nat} {xs : List Value} (hs : a.eval s = v) (hown : Own w0 w e size v n xs)
    (g c : Nat) (cs : List Value) (hx : a.eval x = .slice (some ⟨g, 0, none⟩) 1 c) (hl : cs.length = size) (h1 : ∀ u ∈ cs, u.oneCell' = true)
    (hc : ∀ j u, cs[j]? = some u → w.cell? ⟨g, j, none⟩ = some u)
    (hroom : (n + 1) * bytes ≤ 140737488355328)
    (h : ∀ v' w', Own w0 w' e size v' (n + 1) (xs ++ cs) → K (a.put o.dst v') w') :
    if Region.wanted o (yielded ops a.tmps) = true then Oper.wp P o a w K Q else E := by
  have hw : Region.wanted o (yielded ops a.tmps) = true := by simp [Region.wanted, hgd]
  rw [if_pos hw]
  exact wp_push s x t ho ht hs hown g c cs hx hl h1 hc hroom h
/-- The cells of a block just laid, behind draws. -/
theorem cells_new (w : World) (q : Nat) (cs : Array Value) (e : TypeId) : ∀ j u, cs.toList[j]? = some u → ((w.alloc (.cells cs e)).drewN q).cell? ⟨w.heap.size, j, none⟩ = some u := by
  intro j u hu
  have hj : ((w.alloc (.cells cs e)).drewN q).heap[w.heap.size]? = some (.cells cs e) := heap_alloc_new w _
  simp only [World.cell?, hj]
  simpa using hu

/-- 'append(s, x...)' in whatever world: s the call's own; x whatever slice, nil among them. -/
theorem run_append_nothing {P : Program} (w : World) {base : Nat} {t ty e : TypeId} {i : TypeInfo} {size : Nat} (ht : P.underlying t = some (.slice e)) (hi : P.info? e = some i)
    {v : Value} {n : Nat} {xs : List Value} (hown : w.ownsRow base e size v n xs) (A : Option Addr) (c : Nat) : (Builtin.append_ #[t, t] ty #[v, .slice A 0 c]).run P w = .ok v w := by
  rcases hown.2 with ⟨rfl, rfl⟩ | ⟨g, cap, cur, rfl, _, _, hnc, _⟩
  · cases A <;> simp [Builtin.append_, run_underlying ht, sizeOf, typeInfo, hi, Builtin.lenOf, Builtin.firstCells, loadCells, loadCellsFrom]
  · cases A <;> simp [Builtin.append_, run_underlying ht, sizeOf, typeInfo, hi, Builtin.lenOf, Builtin.firstCells, hnc, storeCells, loadCells, loadCellsFrom]
theorem wp_cat {P : Program} {o : Oper} {a : Act} {K : Act → World → Prop} {Q : Exit → Act → World → Prop} (s x : Operand) (t : TypeId)
    (ho : o.op = .call { callee := .builtin .append, args := #[s, x], argTypes := #[t, t] })
    {e : TypeId} {z : Value} {size bytes : Nat} (ht : ElemT P t e z size bytes) {w0 w : World} {v : Value} {n : Nat} {xs : List Value} (hs : a.eval s = v) (hown : Own w0 w e size v n xs)
    {A : Option Addr} {m c : Nat} {news : List Value} (hx : a.eval x = .slice A m c) (hsl : Sl w A m c size news) (h1 : ∀ u ∈ news, u.oneCell' = true)
    (hroom : (n + m) * bytes ≤ 140737488355328)
    (h : ∀ v' w', Own w0 w' e size v' (n + m) (xs ++ news) → K (a.put o.dst v') w') : o.wp P a w K Q := by
  obtain ⟨i, hi, hz, hsz, hby⟩ := info_parts ht.info
  have hb1 : n + m ≤ (n + m) * bytes := Nat.le_mul_of_pos_right _ ht.bpos
  have : ∃ v' w', (Builtin.append_ #[t, t] o.type #[v, .slice A m c]).run P w = .ok v' w' ∧ Own w0 w' e size v' (n + m) (xs ++ news) := by
    rcases Nat.eq_zero_or_pos m with hm | hm
    · subst hm
      have hn : news = [] := List.eq_nil_of_length_eq_zero (by simpa using hsl.1)
      subst hn
      exact ⟨v, w, run_append_nothing w ht.und hi hown.1 A c, by simpa using hown⟩
    · obtain ⟨b, off, rfl, hc⟩ := hsl.addr hm
      obtain ⟨v', w', hrun, h2, h3, _, _⟩ := run_append_own_at (P := P) w w0.heap.size t o.type e i z size bytes ht.und hi hz hsz hby ht.cells ht.pos v n xs hown.1 ⟨b, off, none⟩ m c news hsl.1
        (fun j u hu => by
          have he : (Addr.mk b off none).add j = ⟨b, off + j, none⟩ := by unfold Addr.add; split <;> simp_all
          rw [he]; exact hc j u hu) h1 (by simp only [maxLen]; omega) hroom hown.2.size
      exact ⟨v', w', hrun, h2, hown.2.grown h3 hown.2.size (fun k hk => (hown.1.lt k hk).1)⟩
  obtain ⟨v', w', hrun, h2⟩ := this
  unfold Oper.wp execOp
  simp only [ho, resolve, invoke, builtin, Sem.run_bind, Sem.run_pure, Result.andThen_ok, List.map_toArray, List.map_cons, List.map_nil, hs, hx, hrun]
  exact h v' w' h2
theorem wpList_cat {P : Program} {ops : Array Oper} {rest : List Oper} {o : Oper} {a : Act} {Q : Exit → Act → World → Prop} (hgd : o.guard = none) (s x : Operand) (t : TypeId)
    (ho : o.op = .call { callee := .builtin .append, args := #[s, x], argTypes := #[t, t] })
    {e : TypeId} {z : Value} {size bytes : Nat} (ht : ElemT P t e z size bytes) {w0 w : World} {v : Value} {n : Nat} {xs : List Value} (hs : a.eval s = v) (hown : Own w0 w e size v n xs)
    {A : Option Addr} {m c : Nat} {news : List Value} (hx : a.eval x = .slice A m c) (hsl : Sl w A m c size news) (h1 : ∀ u ∈ news, u.oneCell' = true)
    (hroom : (n + m) * bytes ≤ 140737488355328)
    (h : ∀ v' w', Own w0 w' e size v' (n + m) (xs ++ news) → wpList P ops Q rest (a.put o.dst v') w') : wpList P ops Q (o :: rest) a w :=
  wpList_plain hgd fun _ hK => wp_cat s x t ho ht hs hown hx hsl h1 hroom fun v' w' h2 => hK _ _ (h v' w' h2)
theorem step_cat {P : Program} {ops : Array Oper} {o : Oper} {a : Act} {K : Act → World → Prop} {Q : Exit → Act → World → Prop} {E : Prop} (hgd : o.guard = none) (s x : Operand) (t : TypeId)
    (ho : o.op = .call { callee := .builtin .append, args := #[s, x], argTypes := #[t, t] })
    {e : TypeId} {z : Value} {size bytes : Nat} (ht : ElemT P t e z size bytes) {w0 w : World} {v : Value} {n : Nat} {xs : List Value} (hs : a.eval s = v) (hown : Own w0 w e size v n xs)
    {A : Option Addr} {m c : Nat} {news : List Value} (hx : a.eval x = .slice A m c) (hsl : Sl w A m c size news) (h1 : ∀ u ∈ news, u.oneCell' = true)
    (hroom : (n + m) * bytes ≤ 140737488355328)
    (h : ∀ v' w', Own w0 w' e size v' (n + m) (xs ++ news) → K (a.put o.dst v') w') :
    if Region.wanted o (yielded ops a.tmps) = true then Oper.wp P o a w K Q else E := by
  have hw : Region.wanted o (yielded ops a.tmps) = true := by simp [Region.wanted, hgd]
  rw [if_pos hw]
  exact wp_cat s x t ho ht hs hown hx hsl h1 hroom h
theorem one_bytes (l : List UInt8) : ∀ u ∈ l.map u8c, u.oneCell' = true := by intro u hu; obtain ⟨x, _, rfl⟩ := List.mem_map.1 hu; rfl
theorem one_nums (l : List Int) : ∀ u ∈ l.map i64c, u.oneCell' = true := by intro u hu; obtain ⟨x, _, rfl⟩ := List.mem_map.1 hu; rfl

/-- Parts of a slice of one-cell elements. -/
theorem Sl.upto {w : World} {A : Option Addr} {n c : Nat} {xs : List Value} (h : Sl w A n c 1 xs) {k : Nat} (hk : k ≤ n) : Sl w A k c 1 (xs.take k) := by
  have hl := h.len
  refine ⟨by simp; omega, by have := h.cap; omega, h.2.2.1, fun hn => ?_⟩
  obtain ⟨b, o, rfl, hc⟩ := h.addr (by omega)
  exact ⟨b, o, rfl, fun j u hu => hc j u (by
    have hj : j < k := by have := (List.getElem?_eq_some_iff.1 hu).1; simp at this; omega
    rw [List.getElem?_take_of_lt hj] at hu; exact hu)⟩
theorem Sl.from {w : World} {A A' : Option Addr} {n c : Nat} {xs : List Value} (h : Sl w A n c 1 xs) {k : Nat} (hk : k ≤ n) (hA : k < n → ∀ b o, A = some ⟨b, o, none⟩ → A' = some ⟨b, o + k, none⟩) : Sl w A' (n - k) (c - k) 1 (xs.drop k) := by
  have hl := h.len
  refine ⟨by simp; omega, by have := h.cap; omega, by have := h.2.2.1; omega, fun hn => ?_⟩
  obtain ⟨b, o, rfl, hc⟩ := h.addr (by omega)
  exact ⟨b, o + k, hA (by omega) b o rfl, fun j u hu => by
    rw [List.getElem?_drop] at hu
    have := hc _ u hu
    rw [Nat.add_assoc]; exact this⟩

/-! ### a block that is known whole -/
def Blk (w : World) (g : Nat) (t : TypeId) (cs : List Value) : Prop := w.heap[g]? = some (.cells cs.toArray t (0, 0))
section
variable {w w' : World} {g : Nat} {t : TypeId} {cs : List Value}
theorem Blk.lt (h : Blk w g t cs) : g < w.heap.size := (Array.getElem?_eq_some_iff.1 h).1
theorem Blk.cell (h : Blk w g t cs) (i : Nat) : w.cell? ⟨g, i, none⟩ = cs[i]? := by
  unfold Blk at h
  simp [World.cell?, h]
theorem Blk.free (h : Blk w g t cs) (i : Nat) : w.frozen? ⟨g, i, none⟩ = false := by
  unfold Blk at h
  simp [World.frozen?, h]
theorem Blk.new (w : World) (t : TypeId) (cs : Array Value) : Blk (w.alloc (.cells cs t)) w.heap.size t cs.toList := heap_alloc_new w _
theorem Blk.drew (h : Blk w g t cs) : Blk w.drew g t cs := h
theorem Blk.set (h : Blk w g t cs) (i : Nat) (u : Value) : Blk (w.setCell ⟨g, i, none⟩ u) g t (cs.set i u) := by
  unfold Blk at h ⊢
  simp [World.setCell, Array.getElem?_modify, h]
theorem Blk.far (h : Blk w g t cs) {p : Addr} (hp : g ≠ p.block) (u : Value) : Blk (w.setCell p u) g t cs := (Below.heap_setCell w p u g hp).trans h
theorem Blk.mono (h : Blk w g t cs) (hb : Below w.heap.size w w') : Blk w' g t cs := (hb.block g h.lt).trans h
theorem Blk.below {B : Nat} (h : Blk w g t cs) (hb : Below B w w') (hg : g < B) : Blk w' g t cs := (hb.block g hg).trans h
theorem Blk.alloc (h : Blk w g t cs) (o : Obj) : Blk (w.alloc o) g t cs := (Below.heap_alloc w o g h.lt).trans h
/-- A slice over a whole block that the call has made is the call's own. -/
theorem Blk.own {w0 : World} {size n : Nat} (h : Blk w g t cs) (hg : w0.heap.size ≤ g) (hb : Below w0.heap.size w0 w) (hn : cs.length = n * size) (hm : n ≤ maxLen) :
    Own w0 w t size (.slice (some ⟨g, 0, none⟩) n n) n cs :=
  ⟨⟨hn, .inr ⟨g, n, cs.toArray, rfl, hg, h, Nat.le_refl _, hm, by simp [hn], by simp [← hn]⟩⟩, hb⟩
end

/-- n times the same cell (a name that the walk does not open). -/
def reps (n : Nat) (z : Value) : List Value := List.replicate n z
theorem reps_length (n : Nat) (z : Value) : (reps n z).length = n := by simp [reps]
theorem reps_at {n j : Nat} (z : Value) (h : j < n) : (reps n z)[j]? = some z := by simp [reps, h]

/-- 'make([]T, n)', T of one cell: for every world. -/
theorem run_mk {P : Program} {t e : TypeId} {z : Value} {bytes : Nat} (ht : ElemT P t e z 1 bytes) (hz1 : z.cells = #[z]) (n : Nat) (h : n * bytes ≤ 281474976710656) (w : World) :
    (Instr.makeSlice t (.int .i64 (n : Int)) (.int .i64 (n : Int))).run P w = .ok (.slice (some ⟨w.heap.size, 0, none⟩) n n) (w.alloc (.cells (reps n z).toArray e)) := by
  obtain ⟨i, hi, hz, hsz, hby⟩ := info_parts ht.info
  have hb := ht.bpos
  have hn : n ≤ n * bytes := Nat.le_mul_of_pos_right _ hb
  have hr := run_make (P := P) w t e i z ht.und hi hz .i64 .i64 n n (by omega) (by omega) (by rw [hby, Int.mul_comm]; omega) (by omega)
  simp only [Int.toNat_natCast, hsz, Nat.mul_one] at hr
  rw [hr]
  have hc : madeCells z.cells n = (reps n z).toArray := by
    unfold madeCells reps
    rw [hz1]
    apply Array.ext
    · simp
    · intro j hj1 hj2
      simp only [Array.getElem_map, Array.getElem_range, List.getElem_toArray, List.getElem_replicate]
      have : (#[z] : Array Value).size = 1 := rfl
      rw [this, Nat.mod_one]; rfl
  rw [hc]

end Go.Proofs.YtadenlhnfkccaaaGreatDoor

/- ObNumL, ObBits, ObNumW: one text. No condition. -/
/- Numbers as bytes: plain functions on lists of bytes, and what they answer. No condition. -/
namespace Go.Proofs.YtadenlhnfkccaaaGreatDoor
set_option linter.unusedVariables false

/-- The number of bytes, the greatest first. -/
def getL (l : List UInt8) : Nat := l.foldl (fun n c => n * 256 + c.toNat) 0
theorem getL_snoc (l : List UInt8) (c : UInt8) : getL (l ++ [c]) = getL l * 256 + c.toNat := by simp [getL]
theorem foldl_lt (l : List UInt8) (a : Nat) : l.foldl (fun n c => n * 256 + c.toNat) a < (a + 1) * 256 ^ l.length := by
  induction l generalizing a with
  | nil => simp
  | cons c l ih =>
    simp only [List.foldl_cons, List.length_cons, Nat.pow_succ]
    have := ih (a * 256 + c.toNat)
    have hc := c.toNat_lt
    refine Nat.lt_of_lt_of_le this ?_
    rw [Nat.mul_comm (256 ^ l.length) 256, ← Nat.mul_assoc]
    exact Nat.mul_le_mul_right _ (by omega)
theorem getL_lt (l : List UInt8) : getL l < 256 ^ l.length := by simpa [getL] using foldl_lt l 0
theorem take_snoc (l : List UInt8) (k : Nat) (h : k < l.length) : l.take (k + 1) = l.take k ++ [l.getD k 0] := by
  rw [List.take_succ_eq_append_getElem h]; simp [h]
theorem getL_take (l : List UInt8) (k : Nat) (h : k < l.length) : (getL (l.take (k + 1)) : Int) = getL (l.take k) * 256 + bAt l k := by
  rw [take_snoc l k h, getL_snoc]; unfold bAt; omega
theorem getL_take_lt (l : List UInt8) (k : Nat) (hk : k < 8) : getL (l.take k) < 72057594037927936 := by
  refine Nat.lt_of_lt_of_le (getL_lt _) ?_
  have : (l.take k).length ≤ 7 := by simp; omega
  exact Nat.le_trans (Nat.pow_le_pow_right (by omega) this) (by decide)

/-- The last 'size' bytes of a number, the greatest first. -/
def be (n : Nat) : Nat → List UInt8
  | 0 => []
  | s + 1 => be (n / 256) s ++ [UInt8.ofNat n]
theorem be_length (s : Nat) : ∀ n, (be n s).length = s := by
  induction s with
  | zero => intro n; rfl
  | succ s ih => intro n; simp [be, ih]
theorem getL_be (s : Nat) : ∀ n, n < 256 ^ s → getL (be n s) = n := by
  induction s with
  | zero => intro n h; simp at h; subst h; rfl
  | succ s ih =>
    intro n h
    rw [be, getL_snoc, ih _ (by rw [Nat.pow_succ] at h; omega)]
    simp only [UInt8.toNat_ofNat']
    omega
/-- Put in the program's way: from the top on. -/
def putTo (n size k : Nat) : List UInt8 := be (n / 256 ^ (size - k)) k
theorem putTo_succ (n size k : Nat) (h : k < size) : putTo n size (k + 1) = putTo n size k ++ [UInt8.ofNat (n / 256 ^ (size - 1 - k))] := by
  unfold putTo
  rw [be, Nat.div_div_eq_div_mul, ← Nat.pow_succ]
  have h1 : size - (k + 1) + 1 = size - k := by omega
  have h2 : size - (k + 1) = size - 1 - k := by omega
  rw [Nat.succ_eq_add_one, h1, h2]
theorem putTo_all (n size : Nat) : putTo n size size = be n size := by simp [putTo]
/-- Put in the document's way: from the end on: what stands behind when k cells are left. -/
theorem be_drop (size k : Nat) : ∀ n, k < size → (be n size).drop k = UInt8.ofNat (n / 256 ^ (size - 1 - k)) :: (be n size).drop (k + 1) := by
  induction size generalizing k with
  | zero => intro n h; omega
  | succ s ih =>
    intro n h
    have hl := be_length s (n / 256)
    rw [be]
    by_cases hk : k < s
    · rw [List.drop_append_of_le_length (by omega), List.drop_append_of_le_length (by omega), ih k _ hk, Nat.div_div_eq_div_mul]
      have : 256 * 256 ^ (s - 1 - k) = 256 ^ (s + 1 - 1 - k) := by
        rw [Nat.mul_comm, ← Nat.pow_succ]; congr 1; omega
      rw [this]; rfl
    · have : k = s := by omega
      subst this
      rw [List.drop_append, List.drop_append]
      have e1 : List.drop k (be (n / 256) k) = [] := List.drop_of_length_le (by omega)
      have e2 : List.drop (k + 1) (be (n / 256) k) = [] := List.drop_of_length_le (by omega)
      simp [hl, e1, e2]
theorem u8c_ofNat (m : Nat) : u8c (UInt8.ofNat m) = .int .u8 ((m : Int) % 256) := by
  unfold u8c
  rw [UInt8.toNat_ofNat']
  rfl
theorem putTo_cell (n size k : Nat) (h : k < size) :
    (putTo n size (k + 1)).map u8c = (putTo n size k).map u8c ++ [.int .u8 ((n : Int) / 2 ^ (8 * (size - 1 - k)) % 256)] := by
  rw [putTo_succ n size k h, List.map_append, List.map_singleton, u8c_ofNat]
  have : (256 : Nat) ^ (size - 1 - k) = 2 ^ (8 * (size - 1 - k)) := by rw [Nat.pow_mul]
  rw [this]
  simp
/-- What the document's Put has written when k cells are left. -/
def putFrom (n size k : Nat) : List Value := reps k (.int .u8 0) ++ ((be n size).drop k).map u8c
theorem putFrom_all (n size : Nat) : putFrom n size size = reps size (.int .u8 0) := by
  unfold putFrom
  rw [List.drop_of_length_le (by rw [be_length]; omega)]; simp
theorem putFrom_zero (n size : Nat) : putFrom n size 0 = (be n size).map u8c := by simp [putFrom, reps]
theorem putFrom_length (n size k : Nat) (h : k ≤ size) : (putFrom n size k).length = size := by
  unfold putFrom
  simp only [List.length_append, reps_length, List.length_map, List.length_drop, be_length]; omega
theorem putFrom_at (n size k j : Nat) (h : k ≤ size) (hj : j < k) : (putFrom n size k)[j]? = some (.int .u8 0) := by
  unfold putFrom
  rw [List.getElem?_append_left (by rw [reps_length]; exact hj), reps_at _ hj]
theorem putFrom_set (n size k : Nat) (h : k < size) :
    (putFrom n size (k + 1)).set k (.int .u8 ((n / 256 ^ (size - 1 - k) : Nat) % 256 : Int)) = putFrom n size k := by
  unfold putFrom
  rw [be_drop size k n h, List.map_cons, u8c_ofNat]
  have e : reps (k + 1) (.int .u8 0) = reps k (.int .u8 0) ++ [.int .u8 0] := by unfold reps; rw [List.replicate_succ']
  rw [e, List.append_assoc, List.set_append_right _ _ (by rw [reps_length]; omega), reps_length, Nat.sub_self]
  rfl
theorem shift_lt (n m : Nat) (hn : n < 18446744073709551616) : n / 256 ^ m < 18446744073709551616 := Nat.lt_of_le_of_lt (Nat.div_le_self _ _) hn
theorem shift_succ (n size k : Nat) (h : k + 1 ≤ size) : ((n / 256 ^ (size - k) : Nat) : Int) = ((n / 256 ^ (size - (k + 1)) : Nat) : Int) / 256 := by
  have : size - k = size - (k + 1) + 1 := by omega
  rw [this, Nat.pow_succ, ← Nat.div_div_eq_div_mul]; rfl
theorem bAt_inj {a b : List UInt8} {k : Nat} (h : bAt a k = bAt b k) : a.getD k 0 = b.getD k 0 := by
  unfold bAt at h
  exact UInt8.toNat_inj.1 (by omega)
theorem take_same {a b : List UInt8} {k : Nat} (ha : k < a.length) (hb : k < b.length) (h : a.take k = b.take k) (he : bAt a k = bAt b k) : a.take (k + 1) = b.take (k + 1) := by
  rw [take_snoc a k ha, take_snoc b k hb, h, bAt_inj he]
theorem ne_of_bAt {a b : List UInt8} {k : Nat} (h : bAt a k ≠ bAt b k) : (a == b) = false := by
  rw [beq_eq_false_iff_ne]
  rintro rfl
  exact h rfl
end Go.Proofs.YtadenlhnfkccaaaGreatDoor
/- Bits of numbers without sign, as Nat has them. No condition. -/
namespace Go.Proofs.YtadenlhnfkccaaaGreatDoor
theorem ofInt_nat (k a : Nat) (ha : a < 2 ^ k) : (BitVec.ofInt k (a : Int)).toNat = a := by
  rw [BitVec.ofInt_natCast, BitVec.toNat_ofNat]; exact Nat.mod_eq_of_lt ha
theorem u64_or (a b : Nat) (ha : a < 2 ^ 64) (hb : b < 2 ^ 64) : bits .or .u64 (a : Int) (b : Int) = ((a ||| b : Nat) : Int) := by
  have hx : a ||| b < 2 ^ 64 := Nat.or_lt_two_pow ha hb
  show IntKind.u64.wrap ((BitVec.ofInt 64 (a : Int) ||| BitVec.ofInt 64 (b : Int)).toNat : Int) = _
  rw [BitVec.toNat_or, ofInt_nat 64 a ha, ofInt_nat 64 b hb, IntKind.wrap_u64]
  omega
theorem u8_xor (a b : Nat) (ha : a < 2 ^ 8) (hb : b < 2 ^ 8) : bits .xor .u8 (a : Int) (b : Int) = ((a ^^^ b : Nat) : Int) := by
  have hx : a ^^^ b < 2 ^ 8 := Nat.xor_lt_two_pow ha hb
  show IntKind.u8.wrap ((BitVec.ofInt 8 (a : Int) ^^^ BitVec.ofInt 8 (b : Int)).toNat : Int) = _
  rw [BitVec.toNat_xor, ofInt_nat 8 a ha, ofInt_nat 8 b hb, IntKind.wrap_u8]
  omega
theorem or_add (x b : Nat) (hb : b < 256) : x * 256 ||| b = x * 256 + b := by
  rw [Nat.mul_comm, ← Nat.two_pow_add_eq_or_of_lt (i := 8) hb x]
theorem u64_or_byte (x : Nat) (b : Int) (h0 : 0 ≤ b) (hb : b < 256) (hx : x < 72057594037927936) : bits .or .u64 ((x : Int) * 256) b = (x : Int) * 256 + b := by
  obtain ⟨b, rfl⟩ := Int.eq_ofNat_of_zero_le h0
  have := u64_or (x * 256) b (by omega) (by omega)
  rw [or_add x b (by omega)] at this
  simpa using this
end Go.Proofs.YtadenlhnfkccaaaGreatDoor
namespace Go.Proofs.YtadenlhnfkccaaaGreatDoor
open Go.RowKit
set_option linter.unusedVariables false

theorem tBytes : ElemT Tryz.prog 22 5 (.int .u8 0) 1 1 := ⟨Tryz.underlying22, by kernel_rfl, rfl, by decide, by decide⟩

def RetBs (w : World) (l : List UInt8) (e : Ending) (w' : World) : Prop := ∃ v, e = .returned v ∧ Own w w' 5 1 v l.length (l.map u8c)

/-! ### are bytes the same? -/
set_option maxHeartbeats 400000 in
theorem refSame_any (A B : Option Addr) (n m c d : Nat) (a b : List UInt8) (w : World) (ha : Bs w A n c a) (hb : Bs w B m d b) :
    Calls Tryz.prog 39 #[.slice A n c, .slice B m d] w fun e w' => e = .returned (.bool (a == b)) ∧ ∃ k, w' = w.drewN k := by
  have hla := ha.len
  have hlb := hb.len
  have ma := ha.max
  have mb := hb.max
  have ca := ha.cap
  have cb := hb.cap
  by_cases hnm : n = m
  · subst hnm
    have HA := Lib.hid ha; have HB := Lib.hid hb; clear ha hb
    have HLA := Lib.hid hla; have HLB := Lib.hid hlb; clear hla hlb
    have t1 : ((n : Int) != (n : Int)) = false := by simp
    go_enter Tryz.func39, Tryz.ntmps39
    go_wp2
    clear t1
    go_loopw [5] (fun i wr => ∃ k q : Nat, k ≤ n ∧ i = .int .i64 k ∧ wr = w.drewN q ∧ a.take k = b.take k) (fun i _ => n - (intOf i).toNat)
    case atStart => exact ⟨0, 0, Nat.zero_le _, rfl, rfl, rfl⟩
    case round =>
      obtain ⟨k, q, hk, rfl, rfl, hsame⟩ := hrel
      have HSM := Lib.hid hsame; clear hsame
      by_cases hlt : k < n
      · obtain ⟨b1, o1, rfl, hc1⟩ := HA.out.addr (by omega)
        obtain ⟨b2, o2, rfl, hc2⟩ := HB.out.addr (by omega)
        have c1 : w.cell? ⟨b1, o1 + k, none⟩ = some _ := hc1 k hlt
        have c2 : w.cell? ⟨b2, o2 + k, none⟩ = some _ := hc2 k hlt
        have HC1 := Lib.hid hc1; have HC2 := Lib.hid hc2; clear hc1 hc2
        by_cases he : bAt a k = bAt b k
        · have t1 : (bAt a k != bAt b k) = false := by simp [he]
          have HE := Lib.hid he; clear he
          go_wp2
          go_quiet (fail)
          go_wp2
          go_roundw
          case rel => exact ⟨k + 1, _, by omega, by go_num, rfl, take_same (by rw [HLA.out]; exact hlt) (by rw [HLB.out]; exact hlt) HSM.out HE.out⟩
          case measure => simp [intOf]; omega
        · have t1 : (bAt a k != bAt b k) = true := by simpa using he
          have HE := Lib.hid (ne_of_bAt he); clear he
          go_wp2
          go_quiet (fail)
          go_wp2
          go_ret
          exact ⟨ret_bool HE.out.symm, _, World.drewN_drewN _ _ _⟩
      · obtain rfl : k = n := by omega
        have HE : Hid ((a == b) = true) := by
          have h := HSM.out
          rw [List.take_of_length_le (by rw [HLA.out]; omega), List.take_of_length_le (by rw [HLB.out]; omega)] at h
          exact beq_iff_eq.2 h
        go_wp2
        go_ret
        exact ⟨ret_bool HE.out.symm, _, rfl⟩
  · have t1 : ((n : Int) != (m : Int)) = true := by rw [bne_iff_ne]; omega
    have HE : Hid ((a == b) = false) := by
      apply beq_eq_false_iff_ne.2
      rintro rfl
      omega
    clear ha hb
    go_enter Tryz.func39, Tryz.ntmps39
    go_wp2
    go_ret
    exact ⟨ret_bool HE.out.symm, 0, rfl⟩

theorem refSame_b (A B : Option Addr) (n m c d : Nat) (a b : List UInt8) (w : World) (ha : Bs w A n c a) (hb : Bs w B m d b) :
    Calls Tryz.prog 39 #[.slice A n c, .slice B m d] w fun e w' => e = .returned (.bool (a == b)) ∧ Below w.heap.size w w' :=
  (refSame_any A B n m c d a b w ha hb).mono fun _ _ ⟨he, k, hk⟩ => ⟨he, by rw [hk]; exact belowN (Below.refl _ _) k⟩

/-! ### the chapter's example -/
theorem parse07 (w : World) : Calls Tryz.prog 57 #[.string ⟨#[48, 55]⟩, .int .i64 9] w fun e w' => e = .returned (.tuple #[.int .i64 0, .int .i64 3]) ∧ w = w' := by
  go_enter Tryz.func57, Tryz.ntmps57
  go_wp2
  go_ret2
  exact ⟨rfl, rfl⟩

/-! ### every input -/
def putS (n size : Int) : List UInt8 := if 1 ≤ size ∧ size ≤ 8 then be n.toNat size.toNat else []
def getS (l : List UInt8) : Nat := if 1 ≤ l.length ∧ l.length ≤ 8 then getL l else 0
def getF (l : List UInt8) : Int := if 1 ≤ l.length ∧ l.length ≤ 8 then 0 else 4

end Go.Proofs.YtadenlhnfkccaaaGreatDoor

/- Names, in plain Lean: parts, and what stands between points. No condition. -/
namespace Go.Proofs.YtadenlhnfkccaaaGreatDoor
open Go.RowKit
set_option linter.unusedVariables false
/-- A small letter or a figure below 128. -/
def smallA (b : UInt8) : Bool := (decide (48 ≤ b.toNat) && decide (b.toNat ≤ 57)) || (decide (97 ≤ b.toNat) && decide (b.toNat ≤ 122))
/-- The second byte of a small letter of Latin-1, behind 195. -/
def smallC (b : UInt8) : Bool := decide (159 ≤ b.toNat) && decide (b.toNat ≤ 191) && decide (b.toNat ≠ 183)
/-- A rune that may be in a name. -/
def smallR (r : Nat) : Bool := (decide (48 ≤ r) && decide (r ≤ 57)) || (decide (97 ≤ r) && decide (r ≤ 122)) || (decide (223 ≤ r) && decide (r ≤ 255) && decide (r ≠ 247))
/-- How many runes, if all may be in a name. -/
def runesN : List UInt8 → Option Nat
  | [] => some 0
  | [b] => if smallA b = true then some 1 else none
  | b :: c :: l => if smallA b = true then (runesN (c :: l)).map (· + 1) else if b = 195 ∧ smallC c = true then (runesN l).map (· + 1) else none
def partL (l : List UInt8) : Bool := match runesN l with
  | some n => decide (1 ≤ n) && decide (n ≤ 8)
  | none => false
/-- How many bytes the rune has with which a text begins, if it may be in a name; else 0. -/
def smallAt : List UInt8 → Nat
  | [] => 0
  | [b] => if smallA b = true then 1 else 0
  | b :: c :: _ => if smallA b = true then 1 else if b = 195 ∧ smallC c = true then 2 else 0
theorem runesN_step : ∀ {l : List UInt8} {k : Nat}, smallAt l = k → 0 < k → k ≤ l.length ∧ k ≤ 2 ∧ runesN l = (runesN (l.drop k)).map (· + 1)
  | [], k, h, hk => by simp only [smallAt] at h; omega
  | [b], k, h, hk => by
    simp only [smallAt] at h
    by_cases hb : smallA b = true
    · rw [if_pos hb] at h
      subst h
      refine ⟨Nat.le_refl _, by decide, ?_⟩
      simp only [runesN]
      rw [if_pos hb]
      rfl
    · rw [if_neg hb] at h; omega
  | b :: c :: l, k, h, hk => by
    simp only [smallAt] at h
    by_cases hb : smallA b = true
    · rw [if_pos hb] at h
      subst h
      refine ⟨by simp, by decide, ?_⟩
      rw [runesN, if_pos hb]
      rfl
    · rw [if_neg hb] at h
      by_cases hc : b = 195 ∧ smallC c = true
      · rw [if_pos hc] at h
        subst h
        refine ⟨by simp, by decide, ?_⟩
        rw [runesN, if_neg hb, if_pos hc]
        rfl
      · rw [if_neg hc] at h; omega
theorem runesN_stop : ∀ {l : List UInt8}, smallAt l = 0 → l ≠ [] → runesN l = none
  | [], _, hl => absurd rfl hl
  | [b], h, _ => by
    simp only [smallAt] at h
    by_cases hb : smallA b = true
    · rw [if_pos hb] at h; omega
    · simp only [runesN]; rw [if_neg hb]
  | b :: c :: l, h, _ => by
    simp only [smallAt] at h
    by_cases hb : smallA b = true
    · rw [if_pos hb] at h; omega
    · rw [if_neg hb] at h
      by_cases hc : b = 195 ∧ smallC c = true
      · rw [if_pos hc] at h; omega
      · rw [runesN, if_neg hb, if_neg hc]
theorem getBang (l : List UInt8) (i : Nat) (h : i < l.length) : (⟨l.toArray⟩ : ByteArray).get! i = l[i] := by
  unfold ByteArray.get!
  simp [h]
/-- What the model reads of a text: its rune may be in a name just where the bytes say so. -/
theorem decode_small (l : List UInt8) (i : Nat) (hi : i < l.length) : smallAt (l.drop i) = if smallR (Utf8.decode ⟨l.toArray⟩ i).1 = true then (Utf8.decode ⟨l.toArray⟩ i).2 else 0 := by
  have hsz : (⟨l.toArray⟩ : ByteArray).size = l.length := by simp [ByteArray.size]
  have h0 : (⟨l.toArray⟩ : ByteArray).get! (i + 0) = l[i] := getBang l i hi
  have hd : l.drop i = l[i] :: l.drop (i + 1) := List.drop_eq_getElem_cons hi
  have hb := (l[i]).toNat_lt
  generalize l[i] = b at *
  unfold Utf8.decode
  simp only [hsz, h0]
  by_cases h1 : b.toNat < 128
  · rw [if_pos h1]
    have hA : smallR b.toNat = smallA b := by
      unfold smallR smallA
      have : (decide (223 ≤ b.toNat) && decide (b.toNat ≤ 255) && decide (b.toNat ≠ 247)) = false := by simp; omega
      rw [this, Bool.or_false]
    simp only [hA]
    rw [hd]
    have hne : b ≠ 195 := by intro e; rw [e] at h1; revert h1; decide
    match l.drop (i + 1) with
    | [] => rfl
    | c :: t =>
      simp only [smallAt]
      by_cases ha : smallA b = true
      · rw [if_pos ha, if_pos ha]
      · rw [if_neg ha, if_neg ha, if_neg (fun e => hne e.1)]
  · rw [if_neg h1]
    have ha : ¬ smallA b = true := by unfold smallA; simp; omega
    have hR : ∀ r, 256 ≤ r → ¬ smallR r = true := fun r hr => by unfold smallR; simp; omega
    have hE : ¬ smallR Utf8.runeError = true := by decide
    have hS : smallAt (l.drop i) = if i + 1 < l.length ∧ b = 195 ∧ smallC (l.getD (i + 1) 0) = true then 2 else 0 := by
      rw [hd]
      by_cases hl : i + 1 < l.length
      · rw [List.drop_eq_getElem_cons hl]
        simp only [smallAt]
        rw [if_neg ha]
        have : l.getD (i + 1) 0 = l[i + 1] := by rw [List.getD_eq_getElem?_getD, List.getElem?_eq_getElem hl]; rfl
        rw [this]
        by_cases h : b = 195 ∧ smallC l[i + 1] = true
        · rw [if_pos h, if_pos ⟨hl, h⟩]
        · rw [if_neg h, if_neg (fun e => h e.2)]
      · rw [List.drop_eq_nil_of_le (by omega), if_neg (fun e => hl e.1)]
        simp only [smallAt]
        rw [if_neg ha]
    have hg : ∀ h : i + 1 < l.length, (⟨l.toArray⟩ : ByteArray).get! (i + 1) = l.getD (i + 1) 0 := fun h => by
      rw [getBang l (i + 1) h, List.getD_eq_getElem?_getD, List.getElem?_eq_getElem h]; rfl
    have hcl : (l.getD (i + 1) 0).toNat < 256 := (l.getD (i + 1) 0).toNat_lt
    obtain ⟨c, hc⟩ : ∃ c, c = l.getD (i + 1) 0 := ⟨_, rfl⟩
    rw [← hc] at hS hg hcl
    rw [hS] 
    have h195 : b = 195 ↔ b.toNat = 195 := ⟨fun h => by rw [h]; rfl, fun h => UInt8.toNat_inj.1 h⟩
    by_cases h2 : b.toNat / 32 = 6 ∧ i + 1 < l.length ∧ c.toNat / 64 = 2
    · obtain ⟨h2, h3, h4⟩ := h2
      have hc2 : (b.toNat / 32 == 6 && (decide (i + 1 < l.length) && ((⟨l.toArray⟩ : ByteArray).get! (i + 1)).toNat / 64 == 2)) = true := by
        rw [hg h3]; simp [h2, h3, h4]
      rw [if_pos hc2, hg h3]
      by_cases h5 : (b.toNat % 32) * 64 + c.toNat % 64 ≥ 128
      · rw [if_pos h5]
        by_cases h6 : b.toNat = 195 ∧ smallC c = true
        · have hr : smallR ((b.toNat % 32) * 64 + c.toNat % 64) = true := by
            obtain ⟨h7, h8⟩ := h6
            unfold smallC at h8
            simp at h8
            unfold smallR
            simp
            omega
          rw [if_pos ⟨h3, h195.2 h6.1, h6.2⟩, if_pos hr]
        · have hr : ¬ smallR ((b.toNat % 32) * 64 + c.toNat % 64) = true := by
            intro hr
            apply h6
            unfold smallR at hr
            simp at hr
            have h7 : b.toNat = 195 := by omega
            refine ⟨h7, ?_⟩
            unfold smallC
            simp
            omega
          rw [if_neg hr, if_neg (fun e => h6 ⟨h195.1 e.2.1, e.2.2⟩)]
      · rw [if_neg h5, if_neg hE, if_neg]
        rintro ⟨_, e1, e2⟩
        have := h195.1 e1
        omega
    · have hc2 : ¬ (b.toNat / 32 == 6 && (decide (i + 1 < l.length) && ((⟨l.toArray⟩ : ByteArray).get! (i + 1)).toNat / 64 == 2)) = true := by
        intro h
        simp only [Bool.and_eq_true, beq_iff_eq, decide_eq_true_eq] at h
        obtain ⟨e1, e2, e3⟩ := h
        rw [hg e2] at e3
        exact h2 ⟨e1, e2, e3⟩
      rw [if_neg hc2, if_neg (by
        rintro ⟨e0, e1, e2⟩
        apply h2
        have := h195.1 e1
        unfold smallC at e2
        simp at e2
        exact ⟨by omega, e0, by omega⟩)]
      split
      · split
        · next h => 
          simp only [Bool.and_eq_true, decide_eq_true_eq] at h
          rw [if_neg (hR _ (by omega))]
        · first | rfl | rw [if_neg hE]
      · split
        · split
          · next h =>
            simp only [Bool.and_eq_true, decide_eq_true_eq] at h
            rw [if_neg (hR _ (by omega))]
          · first | rfl | rw [if_neg hE]
        · first | rfl | rw [if_neg hE]
end Go.Proofs.YtadenlhnfkccaaaGreatDoor

/- Names, in plain Lean: the reference's runes, and pieces between points. No condition. -/
namespace Go.Proofs.YtadenlhnfkccaaaGreatDoor
open Go.RowKit
set_option linter.unusedVariables false
/-- How many bytes a first byte asks for, and what it gives. -/
def leadR (c : Nat) : Nat × Nat := if 240 ≤ c then (4, c - 240) else if 224 ≤ c then (3, c - 224) else if 192 ≤ c then (2, c - 192) else (1, c)
def contB (b : UInt8) : Bool := decide (128 ≤ b.toNat) && decide (b.toNat ≤ 191)
/-- The rune's number behind the first i bytes. -/
def valR (l : List UInt8) (r0 : Nat) : Nat → Nat
  | 0 => r0
  | 1 => r0
  | i + 2 => valR l r0 (i + 1) * 64 + ((l.getD (i + 1) 0).toNat - 128)
def okR (l : List UInt8) : Nat → Bool
  | 0 => true
  | 1 => true
  | i + 2 => okR l (i + 1) && contB (l.getD (i + 1) 0)
def rightR (r : Nat) : Bool := decide (r ≤ 1114111) && (decide (r < 55296) || decide (57343 < r))
def bytesR (r : Nat) : List UInt8 :=
  if r < 128 then [UInt8.ofNat r] else if r < 2048 then [UInt8.ofNat (192 + r / 64), UInt8.ofNat (128 + r % 64)]
  else if r < 65536 then [UInt8.ofNat (224 + r / 4096), UInt8.ofNat (128 + r / 64 % 64), UInt8.ofNat (128 + r % 64)]
  else [UInt8.ofNat (240 + r / 262144), UInt8.ofNat (128 + r / 4096 % 64), UInt8.ofNat (128 + r / 64 % 64), UInt8.ofNat (128 + r % 64)]
/-- The rune with which a text begins, and its size; size 0: none. -/
def firstR (l : List UInt8) : Nat × Nat := match l with
  | [] => (0, 0)
  | b :: _ =>
    let s := (leadR b.toNat).1
    let r := valR l (leadR b.toNat).2 s
    if l.length < s then (0, 0) else if okR l s = false then (0, 0) else if rightR r = false ∨ bytesR r ≠ l.take s then (0, 0) else (r, s)
theorem first_small : ∀ {l : List UInt8} {k : Nat}, smallAt l = k → 0 < k → (firstR l).2 = k ∧ smallR (firstR l).1 = true
  | [], k, h, hk => by simp only [smallAt] at h; omega
  | b :: t, k, h, hk => by
    by_cases hb : smallA b = true
    · have hs : smallAt (b :: t) = 1 := by cases t <;> simp only [smallAt] <;> rw [if_pos hb]
      rw [hs] at h
      subst h
      have hb' := hb
      unfold smallA at hb'
      simp at hb'
      have hl : leadR b.toNat = (1, b.toNat) := by unfold leadR; rw [if_neg (by omega), if_neg (by omega), if_neg (by omega)]
      have hr : rightR b.toNat = true := by
        unfold rightR
        rw [Bool.and_eq_true, Bool.or_eq_true, decide_eq_true_eq, decide_eq_true_eq]
        exact ⟨by omega, .inl (by omega)⟩
      have hy : bytesR b.toNat = (b :: t).take 1 := by unfold bytesR; rw [if_pos (by omega)]; simp
      have hf : firstR (b :: t) = (b.toNat, 1) := by
        simp only [firstR]
        rw [hl]
        show (if (b :: t).length < 1 then ((0 : Nat), (0 : Nat)) else if okR (b :: t) 1 = false then (0, 0) else if rightR b.toNat = false ∨ bytesR b.toNat ≠ (b :: t).take 1 then (0, 0) else (b.toNat, 1)) = _
        rw [if_neg (by simp), if_neg (by show ¬ true = false; decide), if_neg]
        rintro (e | e)
        · rw [hr] at e; cases e
        · exact e hy
      rw [hf]
      refine ⟨rfl, ?_⟩
      unfold smallR
      simp
      omega
    · match t, h with
      | [], h => simp only [smallAt] at h; rw [if_neg hb] at h; omega
      | c :: t, h =>
        simp only [smallAt] at h
        rw [if_neg hb] at h
        by_cases hc : b = 195 ∧ smallC c = true
        · rw [if_pos hc] at h
          subst h
          obtain ⟨rfl, hc⟩ := hc
          have hc' := hc
          unfold smallC at hc'
          simp at hc'
          have hl : leadR (195 : UInt8).toNat = (2, 3) := by decide
          have hv : valR (195 :: c :: t) 3 2 = 192 + (c.toNat - 128) := by
            show 3 * 64 + (c.toNat - 128) = _
            omega
          have ho : okR (195 :: c :: t) 2 = true := by
            show (true && contB c) = true
            unfold contB
            rw [Bool.true_and, Bool.and_eq_true, decide_eq_true_eq, decide_eq_true_eq]
            exact ⟨by omega, by omega⟩
          have hr : rightR (192 + (c.toNat - 128)) = true := by
            unfold rightR
            rw [Bool.and_eq_true, Bool.or_eq_true, decide_eq_true_eq, decide_eq_true_eq]
            exact ⟨by omega, .inl (by omega)⟩
          have hy : bytesR (192 + (c.toNat - 128)) = (195 :: c :: t).take 2 := by
            unfold bytesR
            rw [if_neg (by omega), if_pos (by omega)]
            have e1 : (192 + (192 + (c.toNat - 128)) / 64) = 195 := by omega
            have e2 : (128 + (192 + (c.toNat - 128)) % 64) = c.toNat := by omega
            rw [e1, e2]
            simp
          have hf : firstR (195 :: c :: t) = (192 + (c.toNat - 128), 2) := by
            simp only [firstR]
            rw [hl]
            show (if (195 :: c :: t).length < 2 then ((0 : Nat), (0 : Nat)) else if okR (195 :: c :: t) 2 = false then (0, 0) else if rightR (valR (195 :: c :: t) 3 2) = false ∨ bytesR (valR (195 :: c :: t) 3 2) ≠ (195 :: c :: t).take 2 then (0, 0) else (valR (195 :: c :: t) 3 2, 2)) = _
            rw [hv, if_neg (by simp), if_neg (by rw [ho]; decide), if_neg]
            rintro (e | e)
            · rw [hr] at e; cases e
            · exact e hy
          rw [hf]
          refine ⟨rfl, ?_⟩
          unfold smallR
          simp
          omega
        · rw [if_neg hc] at h; omega
/-- Where the bytes begin no rune of a name: none, or another one. -/
theorem first_other : ∀ {l : List UInt8}, smallAt l = 0 → (firstR l).2 = 0 ∨ ¬ smallR (firstR l).1 = true
  | [], _ => .inl rfl
  | b :: t, h => by
    by_cases h0 : (firstR (b :: t)).2 = 0
    · exact .inl h0
    · right
      intro hr
      have hf : firstR (b :: t) = (valR (b :: t) (leadR b.toNat).2 (leadR b.toNat).1, (leadR b.toNat).1) ∧ bytesR (valR (b :: t) (leadR b.toNat).2 (leadR b.toNat).1) = (b :: t).take (leadR b.toNat).1 := by
        unfold firstR at h0 ⊢
        simp only at h0 ⊢
        split at h0
        · exact absurd rfl h0
        · split at h0
          · exact absurd rfl h0
          · split at h0
            · exact absurd rfl h0
            · next h1 h2 h3 =>
              rw [if_neg h1, if_neg h2, if_neg h3]
              exact ⟨rfl, Classical.byContradiction fun e => h3 (.inr e)⟩
      obtain ⟨h1, h2⟩ := hf
      rw [h1] at hr
      generalize valR (b :: t) (leadR b.toNat).2 (leadR b.toNat).1 = r at *
      unfold smallR at hr
      simp only [Bool.or_eq_true, Bool.and_eq_true, decide_eq_true_eq] at hr
      have hlead : 1 ≤ (leadR b.toNat).1 := by unfold leadR; repeat (first | split | exact (by decide : 1 ≤ 4) | exact (by decide : 1 ≤ 3) | exact (by decide : 1 ≤ 2) | exact Nat.le_refl 1)
      unfold bytesR at h2
      by_cases hr1 : r < 128
      · rw [if_pos hr1] at h2
        obtain ⟨s, hs⟩ : ∃ s, (leadR b.toNat).1 = s + 1 := ⟨(leadR b.toNat).1 - 1, by omega⟩
        rw [hs, List.take_succ_cons] at h2
        injection h2 with h2 _
        have hb : b.toNat = r := by rw [← h2]; simp; omega
        have : smallA b = true := by unfold smallA; rw [hb]; simp; omega
        cases t <;> simp only [smallAt] at h <;> rw [if_pos this] at h <;> omega
      · rw [if_neg hr1, if_pos (by omega)] at h2
        obtain ⟨s, hs⟩ : ∃ s, (leadR b.toNat).1 = s + 1 := ⟨(leadR b.toNat).1 - 1, by omega⟩
        rw [hs, List.take_succ_cons] at h2
        injection h2 with h2 h3
        have hb : b = 195 := by rw [← h2]; have : 192 + r / 64 = 195 := by omega
                                rw [this]; rfl
        match t, h, h3 with
        | [], _, h3 => simp at h3
        | c :: t, h, h3 =>
          cases s with
          | zero => simp at h3
          | succ s =>
            rw [List.take_succ_cons] at h3
            injection h3 with h3 _
            have hc : smallC c = true := by
              unfold smallC
              rw [← h3]
              simp
              omega
            have hna : ¬ smallA b = true := by rw [hb]; decide
            simp only [smallAt] at h
            rw [if_neg hna, if_pos ⟨hb, hc⟩] at h
            omega
def runesR : Nat → List UInt8 → Option (List Nat)
  | _, [] => some []
  | 0, _ :: _ => none
  | f + 1, b :: t => if (firstR (b :: t)).2 = 0 then none else (runesR f ((b :: t).drop (firstR (b :: t)).2)).map ((firstR (b :: t)).1 :: ·)
def smallsO (o : Option (List Nat)) : Option Nat := match o with
  | some rs => if rs.all smallR = true then some rs.length else none
  | none => none
theorem runesR_small : ∀ (f : Nat) (l : List UInt8), l.length ≤ f → smallsO (runesR f l) = runesN l
  | _, [], _ => by simp [runesR, smallsO, runesN]
  | 0, _ :: _, h => by simp at h
  | f + 1, b :: t, h => by
    rcases Nat.eq_zero_or_pos (smallAt (b :: t)) with h0 | h0
    · rw [runesN_stop h0 (by simp)]
      rcases first_other h0 with h1 | h1
      · simp only [runesR]; rw [if_pos h1]; rfl
      · simp only [runesR]
        split
        · rfl
        · cases hq : runesR f ((b :: t).drop (firstR (b :: t)).2) with
          | none => rfl
          | some rs =>
            show (if (List.all ((firstR (b :: t)).1 :: rs) smallR) = true then _ else none) = none
            rw [List.all_cons, if_neg]
            simp [h1]
    · obtain ⟨h1, h2⟩ := first_small rfl h0
      obtain ⟨h3, h4, h5⟩ := runesN_step rfl h0
      have ih := runesR_small f ((b :: t).drop (smallAt (b :: t))) (by rw [List.length_drop]; simp at h; simp; omega)
      rw [h5, ← ih]
      simp only [runesR]
      rw [h1, if_neg (by omega)]
      cases hq : runesR f ((b :: t).drop (smallAt (b :: t))) with
      | none => rfl
      | some rs =>
        show (if (List.all ((firstR (b :: t)).1 :: rs) smallR) = true then some (rs.length + 1) else none) = _
        rw [List.all_cons, h2, Bool.true_and]
        show _ = Option.map _ (if rs.all smallR = true then some rs.length else none)
        split <;> rfl
/-- The reference's part. -/
def partR (l : List UInt8) : Bool := match runesR l.length l with
  | some rs => decide (1 ≤ rs.length) && decide (rs.length ≤ 8) && rs.all smallR
  | none => false
theorem partR_eq (l : List UInt8) : partR l = partL l := by
  have h := runesR_small l.length l (Nat.le_refl _)
  unfold partR partL
  rw [← h]
  cases runesR l.length l with
  | none => rfl
  | some rs =>
    show _ = (match (if rs.all smallR = true then some rs.length else none) with | some n => decide (1 ≤ n) && decide (n ≤ 8) | none => false)
    by_cases ha : rs.all smallR = true
    · rw [if_pos ha]
      show (decide (1 ≤ rs.length) && decide (rs.length ≤ 8) && rs.all smallR) = (decide (1 ≤ rs.length) && decide (rs.length ≤ 8))
      rw [ha, Bool.and_true]
    · rw [if_neg ha]
      have : rs.all smallR = false := by simpa using ha
      show (decide (1 ≤ rs.length) && decide (rs.length ≤ 8) && rs.all smallR) = false
      rw [this, Bool.and_false]
end Go.Proofs.YtadenlhnfkccaaaGreatDoor

/- Names, in plain Lean: pieces between points, and which texts are names. No condition. -/
namespace Go.Proofs.YtadenlhnfkccaaaGreatDoor
open Go.RowKit
set_option linter.unusedVariables false
def consH (b : UInt8) : List (List UInt8) → List (List UInt8)
  | [] => [[b]]
  | p :: ps => (b :: p) :: ps
/-- What stands between points. -/
def piecesL : List UInt8 → List (List UInt8)
  | [] => [[]]
  | b :: t => if b = 46 then [] :: piecesL t else consH b (piecesL t)
theorem pieces_ne : ∀ l, piecesL l ≠ []
  | [], h => by cases h
  | b :: t, h => by
    unfold piecesL at h
    split at h
    · cases h
    · cases hp : piecesL t with
      | nil => exact pieces_ne t hp
      | cons p ps => rw [hp] at h; cases h
theorem pieces_none : ∀ l : List UInt8, (∀ b ∈ l, b ≠ 46) → piecesL l = [l]
  | [], _ => rfl
  | b :: t, h => by
    unfold piecesL
    rw [if_neg (h b List.mem_cons_self), pieces_none t (fun c hc => h c (List.mem_cons_of_mem _ hc))]
    rfl
theorem pieces_cut : ∀ (l : List UInt8) (i : Nat), l[i]? = some 46 → (∀ j, j < i → l[j]? ≠ some 46) → piecesL l = l.take i :: piecesL (l.drop (i + 1))
  | [], i, h, _ => by simp at h
  | b :: t, 0, h, _ => by
    have : b = 46 := by simpa using h
    show (if b = 46 then [] :: piecesL t else consH b (piecesL t)) = _
    rw [if_pos this]
    rfl
  | b :: t, i + 1, h, hj => by
    have hb : b ≠ 46 := fun e => hj 0 (by omega) (by simp [e])
    have ih := pieces_cut t i (by simpa using h) (fun j hji => by have := hj (j + 1) (by omega); simpa using this)
    show (if b = 46 then [] :: piecesL t else consH b (piecesL t)) = _
    rw [if_neg hb, ih]
    rfl
theorem pieces_index (l : List UInt8) (i : Int) (h : Lib.indexByte l 46 = i) : (i = -1 ∧ piecesL l = [l]) ∨ ∃ k : Nat, i = k ∧ k < l.length ∧ piecesL l = l.take k :: piecesL (l.drop (k + 1)) := by
  by_cases h0 : i < 0
  · have := Lib.indexByte_ge l 46
    have hi : i = -1 := by omega
    subst hi
    left
    refine ⟨rfl, pieces_none l fun b hb e => ?_⟩
    subst e
    obtain ⟨k, hk, he⟩ := List.getElem_of_mem hb
    exact Lib.indexByte_none h k ((List.getElem?_eq_getElem hk).trans (by rw [he]))
  · right
    obtain ⟨k, rfl⟩ : ∃ k : Nat, i = k := ⟨i.toNat, by omega⟩
    obtain ⟨h1, h2⟩ := Lib.indexByte_some h
    exact ⟨k, rfl, (List.getElem?_eq_some_iff.1 h1).1, pieces_cut l k h1 h2⟩
/-- The reference's way: byte by byte. -/
def pushP (ps : List (List UInt8)) (b : UInt8) : List (List UInt8) := if b = 46 then ps ++ [[]] else ps.dropLast ++ [ps.getLastD [] ++ [b]]
theorem consH_push (b c : UInt8) (hb : b ≠ 46) (ps : List (List UInt8)) (hne : ps ≠ []) : consH b (pushP ps c) = pushP (consH b ps) c := by
  match ps, hne with
  | [p], _ =>
    unfold pushP
    by_cases hc : c = 46
    · rw [if_pos hc, if_pos hc]; rfl
    · rw [if_neg hc, if_neg hc]; rfl
  | p :: q :: ps, _ =>
    unfold pushP
    by_cases hc : c = 46
    · rw [if_pos hc, if_pos hc]; rfl
    · rw [if_neg hc, if_neg hc]
      simp [consH, List.dropLast, List.getLastD]
theorem pieces_snoc : ∀ (l : List UInt8) (c : UInt8), piecesL (l ++ [c]) = pushP (piecesL l) c
  | [], c => by
    show (if c = 46 then [] :: piecesL [] else consH c (piecesL [])) = _
    unfold pushP
    by_cases hc : c = 46
    · rw [if_pos hc, if_pos hc]; rfl
    · rw [if_neg hc, if_neg hc]; rfl
  | b :: t, c => by
    show (if b = 46 then [] :: piecesL (t ++ [c]) else consH b (piecesL (t ++ [c]))) = pushP (if b = 46 then [] :: piecesL t else consH b (piecesL t)) c
    rw [pieces_snoc t c]
    by_cases hb : b = 46
    · rw [if_pos hb, if_pos hb]
      have hne := pieces_ne t
      unfold pushP
      by_cases hc : c = 46
      · rw [if_pos hc, if_pos hc]; rfl
      · rw [if_neg hc, if_neg hc]
        cases hp : piecesL t with
        | nil => exact absurd hp hne
        | cons p ps => rfl
    · rw [if_neg hb, if_neg hb, consH_push b c hb _ (pieces_ne t)]
/-- How many runes the pieces have, each with its point. -/
def sumN (ps : List (List UInt8)) : Nat := (ps.map fun p => (runesN p).getD 0 + 1).sum
def rightL (l : List UInt8) : Bool := (piecesL l).all partL && decide ((piecesL l).length ≤ 4) && decide (sumN (piecesL l) ≤ 25)
def okP (ps : List (List UInt8)) : Prop := ∀ p ∈ ps, runesN p ≠ none
theorem partL_ok {p : List UInt8} (h : partL p = true) : runesN p ≠ none := by
  intro e
  unfold partL at h
  rw [e] at h
  cases h
theorem first_point (t : List UInt8) : firstR (46 :: t) = (46, 1) := by
  simp only [firstR]
  have hl : leadR (46 : UInt8).toNat = (1, 46) := by decide
  rw [hl]
  show (if (46 :: t).length < 1 then ((0 : Nat), (0 : Nat)) else if okR (46 :: t) 1 = false then (0, 0) else if rightR 46 = false ∨ bytesR 46 ≠ (46 :: t).take 1 then (0, 0) else (46, 1)) = _
  rw [if_neg (by simp), if_neg (by show ¬ true = false; decide), if_neg]
  rintro (e | e)
  · revert e; decide
  · exact e rfl
theorem smallAt_point (t : List UInt8) : smallAt (46 :: t) = 0 := by cases t <;> rfl
/-- All runes of a text of such pieces, points among them. -/
theorem count_pieces : ∀ (f : Nat) (l : List UInt8), l.length ≤ f → okP (piecesL l) → ∃ rs, runesR f l = some rs ∧ rs.length + 1 = sumN (piecesL l)
  | _, [], _, _ => ⟨[], by simp [runesR], by simp [piecesL, sumN, runesN]⟩
  | 0, _ :: _, h, _ => by simp at h
  | f + 1, b :: t, h, ho => by
    have hlen : t.length ≤ f := by simpa using h
    by_cases hb : b = 46
    · subst hb
      have hp : piecesL (46 :: t) = [] :: piecesL t := by show (if (46 : UInt8) = 46 then _ else _) = _; rw [if_pos rfl]
      rw [hp] at ho ⊢
      obtain ⟨rs, h1, h2⟩ := count_pieces f t hlen (fun p hq => ho p (List.mem_cons_of_mem _ hq))
      refine ⟨46 :: rs, ?_, ?_⟩
      · simp only [runesR]
        rw [first_point, if_neg (by decide)]
        show Option.map _ (runesR f t) = _
        rw [h1]
        rfl
      · show rs.length + 1 + 1 = sumN ([] :: piecesL t)
        unfold sumN at h2 ⊢
        rw [List.map_cons, List.sum_cons, ← h2]
        simp [runesN]
        omega
    · have hp : piecesL (b :: t) = consH b (piecesL t) := by show (if b = 46 then _ else _) = _; rw [if_neg hb]
      cases hq : piecesL t with
      | nil => exact absurd hq (pieces_ne t)
      | cons p ps =>
        rw [hq] at hp
        have hp : piecesL (b :: t) = (b :: p) :: ps := hp
        rw [hp] at ho ⊢
        have hr := ho (b :: p) List.mem_cons_self
        by_cases ha : smallA b = true
        · have hs : smallAt (b :: p) = 1 := by cases p <;> simp only [smallAt] <;> rw [if_pos ha]
          have hs2 : smallAt (b :: t) = 1 := by cases t <;> simp only [smallAt] <;> rw [if_pos ha]
          obtain ⟨h1, h2⟩ := first_small hs2 (by decide)
          obtain ⟨_, _, h3⟩ := runesN_step hs (by decide)
          rw [List.drop_one, List.tail_cons] at h3
          have hpn : runesN p ≠ none := fun e => hr (by rw [h3, e]; rfl)
          obtain ⟨rs, e1, e2⟩ := count_pieces f t hlen (by rw [hq]; exact fun x hx => (List.mem_cons.1 hx).elim (fun e => e ▸ hpn) (fun hx => ho x (List.mem_cons_of_mem _ hx)))
          refine ⟨(firstR (b :: t)).1 :: rs, ?_, ?_⟩
          · simp only [runesR]
            rw [h1, if_neg (by decide), List.drop_one, List.tail_cons, e1]
            rfl
          · rw [hq] at e2
            unfold sumN at e2 ⊢
            rw [List.map_cons, List.sum_cons] at e2 ⊢
            rw [h3, List.length_cons]
            cases hv : runesN p with
            | none => exact absurd hv hpn
            | some n => rw [hv] at e2; simp at e2 ⊢; omega
        · -- two bytes
          match p, hr, hp, hq with
          | [], hr, _, _ => exact absurd (by simp only [runesN]; rw [if_neg ha]) hr
          | c :: p', hr, hp, hq =>
            by_cases hc : b = 195 ∧ smallC c = true
            · have hs : smallAt (b :: c :: p') = 2 := by simp only [smallAt]; rw [if_neg ha, if_pos hc]
              -- t begins with c
              obtain ⟨t', rfl, hq'⟩ : ∃ t', t = c :: t' ∧ piecesL t' = p' :: ps := by
                match t, hq with
                | [], hq => simp [piecesL] at hq
                | d :: t', hq =>
                  by_cases hd : d = 46
                  · have : piecesL (d :: t') = [] :: piecesL t' := by show (if d = 46 then _ else _) = _; rw [if_pos hd]
                    rw [this] at hq
                    cases hq
                  · have : piecesL (d :: t') = consH d (piecesL t') := by show (if d = 46 then _ else _) = _; rw [if_neg hd]
                    rw [this] at hq
                    cases hw : piecesL t' with
                    | nil => exact absurd hw (pieces_ne t')
                    | cons x xs =>
                      rw [hw] at hq
                      have hq : (d :: x) :: xs = (c :: p') :: ps := hq
                      injection hq with h1 h2
                      injection h1 with h1 h3
                      exact ⟨t', by rw [h1], by rw [hw, h3, h2]⟩
              have hs2 : smallAt (b :: c :: t') = 2 := by simp only [smallAt]; rw [if_neg ha, if_pos hc]
              obtain ⟨h1, h2⟩ := first_small hs2 (by decide)
              obtain ⟨_, _, h3⟩ := runesN_step hs (by decide)
              have h3 : runesN (b :: c :: p') = (runesN p').map (· + 1) := h3
              have hpn : runesN p' ≠ none := fun e => hr (by rw [h3, e]; rfl)
              obtain ⟨rs, e1, e2⟩ := count_pieces f t' (by simp at hlen; omega) (by rw [hq']; exact fun x hx => (List.mem_cons.1 hx).elim (fun e => e ▸ hpn) (fun hx => ho x (List.mem_cons_of_mem _ hx)))
              refine ⟨(firstR (b :: c :: t')).1 :: rs, ?_, ?_⟩
              · simp only [runesR]
                rw [h1, if_neg (by decide)]
                show Option.map _ (runesR f t') = _
                rw [e1]
                rfl
              · rw [hq'] at e2
                unfold sumN at e2 ⊢
                rw [List.map_cons, List.sum_cons] at e2 ⊢
                rw [h3, List.length_cons]
                cases hv : runesN p' with
                | none => exact absurd hv hpn
                | some n => rw [hv] at e2; simp at e2 ⊢; omega
            · exact absurd (by rw [runesN, if_neg ha, if_neg hc]) hr
/-- The reference's names. -/
def rightRef (l : List UInt8) : Bool := (piecesL l).all partR && decide ((piecesL l).length ≤ 4) && (match runesR l.length l with | some rs => decide (rs.length ≤ 24) | none => true)
theorem rightRef_eq (l : List UInt8) : rightRef l = rightL l := by
  unfold rightRef rightL
  have hp : (piecesL l).all partR = (piecesL l).all partL := by congr 1; funext x; exact partR_eq x
  rw [hp]
  cases ha : (piecesL l).all partL with
  | false => rfl
  | true =>
    obtain ⟨rs, h1, h2⟩ := count_pieces l.length l (Nat.le_refl _) (fun p hx => partL_ok (List.all_eq_true.1 ha p hx))
    rw [h1]
    show (_ && _ && decide (rs.length ≤ 24)) = _
    have : decide (rs.length ≤ 24) = decide (sumN (piecesL l) ≤ 25) := by rw [← h2]; exact decide_eq_decide.2 (by omega)
    rw [this]
end Go.Proofs.YtadenlhnfkccaaaGreatDoor

/- Names, in plain Lean: texts of such runes are valid, and as many runes. No condition. -/
namespace Go.Proofs.YtadenlhnfkccaaaGreatDoor
open Go.RowKit
set_option linter.unusedVariables false
theorem decodeL_small {l : List UInt8} {k : Nat} (h : smallAt l = k) (hk : 0 < k) (hl : l ≠ []) : (Lib.decodeL l).2 = k ∧ smallR (Lib.decodeL l).1 = true := by
  have hpos : 0 < l.length := List.length_pos_iff.2 hl
  have hd := decode_small l 0 hpos
  rw [List.drop_zero] at hd
  show (Utf8.decode ⟨l.toArray⟩ 0).2 = k ∧ smallR (Utf8.decode ⟨l.toArray⟩ 0).1 = true
  by_cases hs : smallR (Utf8.decode ⟨l.toArray⟩ 0).1 = true
  · rw [if_pos hs] at hd
    exact ⟨by omega, hs⟩
  · rw [if_neg hs] at hd
    omega
theorem smallAt_pos {l : List UInt8} (h : runesN l ≠ none) (hl : l ≠ []) : 0 < smallAt l := by
  rcases Nat.eq_zero_or_pos (smallAt l) with h0 | h0
  · exact absurd (runesN_stop h0 hl) h
  · exact h0
theorem valid_small : ∀ (f : Nat) (l : List UInt8), l.length ≤ f → runesN l ≠ none → Lib.validGoD f l = true
  | 0, _, _, _ => rfl
  | f + 1, l, hf, h => by
    unfold Lib.validGoD
    by_cases hl : l = []
    · rw [if_pos hl]
    · rw [if_neg hl]
      have hp := smallAt_pos h hl
      obtain ⟨h1, h2⟩ := decodeL_small rfl hp hl
      obtain ⟨h3, h4, h5⟩ := runesN_step rfl hp
      rw [if_neg (fun e => by rw [e.1] at h2; revert h2; decide), h1]
      exact valid_small f (l.drop (smallAt l)) (by rw [List.length_drop]; omega) (fun e => h (by rw [h5, e]; rfl))
theorem valid_of {l : List UInt8} (h : runesN l ≠ none) : Lib.validD l = true := valid_small l.length l (Nat.le_refl _) h
end Go.Proofs.YtadenlhnfkccaaaGreatDoor
