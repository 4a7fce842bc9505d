/- Own texts of this claim, one behind the other. No condition. -/
import Derived.WalkKit
import Derived.Lib.Hide
import Derived.Deep.Draws
import Derived.Maps.AppendAt
import Derived.OpenShut

/- Plain words on memory, and two laws on append and make, kept along the ways that a call takes. No condition. -/
namespace Go.Proofs.YtcfbbgbjlgonpaaGreatDoor
open Go.RowKit
set_option linter.unusedVariables false

theorem wrap_u64 {x : Int} (h : 0 ≤ x) (h' : x < 18446744073709551616) : IntKind.u64.wrap x = x := by
  rw [IntKind.wrap_u64]; omega
theorem ret_bool {a b : Bool} (h : a = b) : Ending.returned (.bool a) = .returned (.bool b) := by rw [h]
theorem ret_int {k : IntKind} {a b : Int} (h : a = b) : Ending.returned (.int k a) = .returned (.int k b) := by rw [h]

theorem belowN {B : Nat} {a w : World} (h : Below B a w) (n : Nat) : Below B a (w.drewN n) := h.trans ⟨rfl, rfl, rfl, Nat.le_refl _, fun _ _ => rfl⟩
theorem below_both {a b c : World} (h : Below a.heap.size a b) (k : Below b.heap.size b c) : Below a.heap.size a c := h.trans (k.mono h.size)

/-! ### a slice that reads as cells -/

/-- The slice's value '.slice A n c' of elements of 'size' cells reads as the cells xs. -/
def Sl (w : World) (A : Option Addr) (n c size : Nat) (xs : List Value) : Prop :=
  xs.length = n * size ∧ n ≤ c ∧ c ≤ maxLen ∧ (0 < n → ∃ b o, A = some ⟨b, o, none⟩ ∧ ∀ j u, xs[j]? = some u → w.cell? ⟨b, o + j, none⟩ = some u)

section
variable {w w' : World} {A : Option Addr} {n c size : Nat} {xs : List Value}
theorem Sl.nil (w : World) (size : Nat) : Sl w none 0 0 size [] := ⟨by simp, Nat.le_refl _, Nat.zero_le _, fun h => absurd h (by omega)⟩
theorem Sl.mono (h : Sl w A n c size xs) (hb : Below w.heap.size w w') : Sl w' A n c size xs := by
  obtain ⟨h1, h2, h3, h4⟩ := h
  refine ⟨h1, h2, h3, fun hn => ?_⟩
  obtain ⟨b, o, rfl, hc⟩ := h4 hn
  refine ⟨b, o, rfl, fun j u hu => ?_⟩
  have h := hc j u hu
  rw [hb.cell (World.block_lt_of_cell? w _ h)]
  exact h
theorem Sl.keep (h : Sl w A n c size xs) (hk : ∀ p : Addr, ∀ u, w.cell? p = some u → w'.cell? p = some u) : Sl w' A n c size xs := by
  obtain ⟨h1, h2, h3, h4⟩ := h
  refine ⟨h1, h2, h3, fun hn => ?_⟩
  obtain ⟨b, o, rfl, hc⟩ := h4 hn
  exact ⟨b, o, rfl, fun j u hu => hk _ _ (hc j u hu)⟩
theorem Sl.len (h : Sl w A n c 1 xs) : xs.length = n := by have := h.1; omega
theorem Sl.cap (h : Sl w A n c size xs) : n ≤ c := h.2.1
theorem Sl.max (h : Sl w A n c size xs) : c ≤ 9223372036854775807 := h.2.2.1
theorem Sl.addr (h : Sl w A n c size xs) (hn : 0 < n) : ∃ b o, A = some ⟨b, o, none⟩ ∧ ∀ j u, xs[j]? = some u → w.cell? ⟨b, o + j, none⟩ = some u := h.2.2.2 hn
end

/-! ### bytes -/

/-- The j-th byte, as a number. -/
def bAt (l : List UInt8) (j : Nat) : Int := ((l.getD j 0).toNat : Int)
theorem bAt_nn (l : List UInt8) (j : Nat) : 0 ≤ bAt l j := by unfold bAt; omega
theorem bAt_lt (l : List UInt8) (j : Nat) : bAt l j < 256 := by unfold bAt; have := (l.getD j 0).toNat_lt; omega
/-- A byte's cell. -/
def u8c (c : UInt8) : Value := .int .u8 (c.toNat : Int)
abbrev Bs (w : World) (A : Option Addr) (n c : Nat) (l : List UInt8) : Prop := Sl w A n c 1 (l.map u8c)
theorem u8c_at {l : List UInt8} {j : Nat} (h : j < l.length) : (l.map u8c)[j]? = some (.int .u8 (bAt l j)) := by
  simp [h, u8c, bAt]
theorem Bs.len {w : World} {A : Option Addr} {n c : Nat} {l : List UInt8} (h : Bs w A n c l) : l.length = n := by have := Sl.len h; simpa using this
theorem Bs.addr {w : World} {A : Option Addr} {n c : Nat} {l : List UInt8} (h : Bs w A n c l) (hn : 0 < n) :
    ∃ b o, A = some ⟨b, o, none⟩ ∧ ∀ j, j < n → w.cell? ⟨b, o + j, none⟩ = some (.int .u8 (bAt l j)) := by
  obtain ⟨b, o, e, hc⟩ := Sl.addr h hn
  exact ⟨b, o, e, fun j hj => hc j _ (u8c_at (by rw [h.len]; exact hj))⟩
theorem u8_of (e : Int) (h0 : 0 ≤ e) (h1 : e < 256) : Value.int .u8 e = u8c (UInt8.ofNat e.toNat) := by
  unfold u8c
  rw [UInt8.toNat_ofNat_of_lt' (by show e.toNat < 256; omega)]
  congr 1
  omega

/-! ### lists of elements of several cells -/
section
variable {α : Type} {s : Nat} {f : α → List Value}
theorem flat_length (hf : ∀ x, (f x).length = s) (L : List α) : (L.flatMap f).length = L.length * s := by
  induction L with
  | nil => simp
  | cons x L ih => simp [ih, hf, Nat.add_mul, Nat.add_comm]
theorem flat_at (hf : ∀ x, (f x).length = s) (L : List α) (i j : Nat) (hj : j < s) (x : α) (hx : L[i]? = some x) : (L.flatMap f)[i * s + j]? = (f x)[j]? := by
  induction L generalizing i with
  | nil => simp at hx
  | cons y L ih =>
    rw [List.flatMap_cons]
    cases i with
    | zero =>
      simp at hx
      subst hx
      rw [Nat.zero_mul, Nat.zero_add, List.getElem?_append_left (by rw [hf]; exact hj)]
    | succ i =>
      rw [List.getElem?_append_right (by rw [hf, Nat.add_mul]; omega), hf]
      have : (i + 1) * s + j - s = i * s + j := by rw [Nat.add_mul]; omega
      rw [this]
      exact ih i (by simpa using hx)
end
theorem flat_one {α : Type} (g : α → Value) (L : List α) : L.flatMap (fun x => [g x]) = L.map g := by induction L <;> simp_all
theorem add_flat (b o j : Nat) : (Addr.mk b o none).add j = ⟨b, o + j, none⟩ := by unfold Addr.add; split <;> simp_all

/-- A slice's value, and the bytes that it reads as. -/
structure BRow where
  a : Option Addr
  n : Nat
  c : Nat
  l : List UInt8
instance : Inhabited BRow := ⟨⟨none, 0, 0, []⟩⟩
def BRow.v (r : BRow) : Value := .slice r.a r.n r.c
/-- A slice of slices of bytes: each row's value and bytes. -/
def Bss (w : World) (A : Option Addr) (n c : Nat) (L : List BRow) : Prop := Sl w A n c 1 (L.map BRow.v) ∧ ∀ r ∈ L, Bs w r.a r.n r.c r.l
/-! ### numbers -/
def iAt (l : List Int) (j : Nat) : Int := l.getD j 0
def i64c (n : Int) : Value := .int .i64 n
abbrev Is (w : World) (A : Option Addr) (n c : Nat) (l : List Int) : Prop := Sl w A n c 1 (l.map i64c)

theorem one_int (k : IntKind) (x : Int) : ∀ u ∈ [Value.int k x], u.oneCell' = true := by intro u hu; simp at hu; subst hu; rfl
/-! ### what the call itself makes -/

/-- A slice's value of the call's own (it began at w0): n elements, the cells xs; nothing that was there has turned. -/
def Own (w0 w : World) (e : TypeId) (size : Nat) (v : Value) (n : Nat) (xs : List Value) : Prop :=
  w.ownsRow w0.heap.size e size v n xs ∧ Below w0.heap.size w0 w

/-- What is known of an element's type e, of a slice's type t. -/
structure ElemT (P : Program) (t e : TypeId) (z : Value) (size bytes : Nat) : Prop where
  und : P.underlying t = some (.slice e)
  info : (P.info? e).map (fun i => (i.zero, i.size, i.bytes)) = some (some z, size, bytes)
  cells : z.cells.size = size
  pos : 0 < size
  bpos : 0 < bytes

section
variable {w0 w w' : World} {e : TypeId} {size n : Nat} {v : Value} {xs : List Value}
theorem Own.nil (w : World) (e : TypeId) (size : Nat) : Own w w e size (.slice none 0 0) 0 [] := ⟨World.ownsRow_nil _ _ _ _, Below.refl _ _⟩
theorem Own.nil' (hb : Below w0.heap.size w0 w) (e : TypeId) (size : Nat) : Own w0 w e size (.slice none 0 0) 0 [] := ⟨World.ownsRow_nil _ _ _ _, hb⟩
theorem Own.below (h : Own w0 w e size v n xs) : Below w0.heap.size w0 w := h.2
/-- Behind a call that only makes memory. -/
theorem Own.mono (h : Own w0 w e size v n xs) (hb : Below w.heap.size w w') : Own w0 w' e size v n xs := by
  refine ⟨⟨h.1.1, ?_⟩, h.2.trans (hb.mono h.2.size)⟩
  rcases h.1.2 with h | ⟨g, cap, cur, hv, hg, hh, r⟩
  · exact .inl h
  · exact .inr ⟨g, cap, cur, hv, hg, by rw [hb.block g (Array.getElem?_eq_some_iff.1 hh).1]; exact hh, r⟩
theorem Own.slice (h : Own w0 w e size v n xs) : ∃ A c, v = .slice A n c ∧ Sl w A n c size xs := by
  obtain ⟨⟨hl, h⟩, _⟩ := h
  rcases h with ⟨rfl, rfl⟩ | ⟨g, cap, cur, rfl, hg, hh, hn, hc, hs, ht⟩
  · refine ⟨none, 0, rfl, hl, Nat.le_refl _, Nat.zero_le _, fun h => absurd h (by omega)⟩
  · refine ⟨_, cap, rfl, hl, hn, hc, fun _ => ⟨g, 0, rfl, fun j u hu => ?_⟩⟩
    have hj : j < xs.length := (List.getElem?_eq_some_iff.1 hu).1
    rw [← ht, List.getElem?_take_of_lt (by omega)] at hu
    simp only [World.cell?, hh, Nat.zero_add]
    simpa using hu
end

theorem Own.alloc {w0 w : World} {e : TypeId} {size n : Nat} {v : Value} {xs : List Value} (h : Own w0 w e size v n xs) (o : Obj) : Own w0 (w.alloc o) e size v n xs := h.mono ((Below.refl _ _).alloc (Nat.le_refl _) _)
theorem Own.drew {w0 w : World} {e : TypeId} {size n : Nat} {v : Value} {xs : List Value} (h : Own w0 w e size v n xs) : Own w0 w.drew e size v n xs := h.mono (Below.refl _ _).drew
theorem Own.drewN {w0 w : World} {e : TypeId} {size n : Nat} {v : Value} {xs : List Value} (h : Own w0 w e size v n xs) (q : Nat) : Own w0 (w.drewN q) e size v n xs := h.mono (belowN (Below.refl _ _) q)

/-- 'append(s, x)' in whatever world: s the call's own, x's cells laid at the head of a block. -/
theorem wp_push {P : Program} {o : Oper} {a : Act} {K : Act → World → Prop} {Q : Exit → Act → World → Prop} (s x : Operand) (t : TypeId)
    (ho : o.op = .call { callee := .builtin .append, args := #[s, x], argTypes := #[t, t] })
    {e : TypeId} {z : Value} {size bytes : Nat} (ht : ElemT P t e z size bytes) {w0 w : World} {v : Value} {n : Nat} {xs : List Value} (hs : a.eval s = v) (hown : Own w0 w e size v n xs)
    (g c : Nat) (cs : List Value) (hx : a.eval x = .slice (some ⟨g, 0, none⟩) 1 c) (hl : cs.length = size) (h1 : ∀ u ∈ cs, u.oneCell' = true)
    (hc : ∀ j u, cs[j]? = some u → w.cell? ⟨g, j, none⟩ = some u)
    (hroom : (n + 1) * bytes ≤ 140737488355328)
    (h : ∀ v' w', Own w0 w' e size v' (n + 1) (xs ++ cs) → K (a.put o.dst v') w') : o.wp P a w K Q := by
  obtain ⟨i, hi, hz, hsz, hby⟩ := info_parts ht.info
  have hb1 : n + 1 ≤ (n + 1) * bytes := Nat.le_mul_of_pos_right _ ht.bpos
  obtain ⟨v', w', hrun, h2, h3, _, _⟩ := run_append_own_at (P := P) w w0.heap.size t o.type e i z size bytes ht.und hi hz hsz hby ht.cells ht.pos v n xs hown.1 ⟨g, 0, none⟩ 1 c cs (by simp [hl])
    (fun j u hu => by
      have he : (Addr.mk g 0 none).add j = ⟨g, j, none⟩ := by unfold Addr.add; split <;> simp_all
      rw [he]; exact hc j u hu) h1 (by simp only [maxLen]; omega) hroom hown.2.size
  unfold Oper.wp execOp
  simp only [ho, resolve, invoke, builtin, Sem.run_bind, Sem.run_pure, Result.andThen_ok, List.map_toArray, List.map_cons, List.map_nil, hs, hx, hrun]
  exact h v' w' ⟨h2, hown.2.grown h3 hown.2.size (fun k hk => (hown.1.lt k hk).1)⟩

/-- 'append(s, x)': s the call's own, x laid in a new block just before. -/
theorem wpList_push {P : Program} {ops : Array Oper} {rest : List Oper} {o : Oper} {a : Act} {Q : Exit → Act → World → Prop} (hgd : o.guard = none) (s x : Operand) (t : TypeId)
    (ho : o.op = .call { callee := .builtin .append, args := #[s, x], argTypes := #[t, t] })
    {e : TypeId} {z : Value} {size bytes : Nat} (ht : ElemT P t e z size bytes) {w0 w : World} {v : Value} {n : Nat} {xs : List Value} (hs : a.eval s = v) (hown : Own w0 w e size v n xs)
    (cs : Array Value) (hx : a.eval x = .slice (some ⟨w.heap.size, 0, none⟩) 1 1) (hl : cs.size = size) (h1 : ∀ u ∈ cs.toList, u.oneCell' = true)
    (hroom : (n + 1) * bytes ≤ 140737488355328)
    (h : ∀ v' w', Own w0 w' e size v' (n + 1) (xs ++ cs.toList) → wpList P ops Q rest (a.put o.dst v') w') : wpList P ops Q (o :: rest) a (w.alloc (.cells cs e)) :=
  wpList_plain hgd fun _ hK => wp_push s x t ho ht hs (hown.alloc _) w.heap.size 1 cs.toList hx (by simpa using hl) h1 (fun j u hu => by
    have hj : (w.alloc (.cells cs e)).heap[w.heap.size]? = some (.cells cs e) := heap_alloc_new w _
    simp only [World.cell?, hj]
    simpa using hu) hroom fun v' w' h2 => hK _ _ (h v' w' h2)

/-- 'append(s, x...)' in whatever world: s the call's own; x whatever slice, nil among them. -/
theorem run_append_nothing {P : Program} (w : World) {base : Nat} {t ty e : TypeId} {i : TypeInfo} {size : Nat} (ht : P.underlying t = some (.slice e)) (hi : P.info? e = some i)
    {v : Value} {n : Nat} {xs : List Value} (hown : w.ownsRow base e size v n xs) (A : Option Addr) (c : Nat) : (Builtin.append_ #[t, t] ty #[v, .slice A 0 c]).run P w = .ok v w := by
  rcases hown.2 with ⟨rfl, rfl⟩ | ⟨g, cap, cur, rfl, _, _, hnc, _⟩
  · cases A <;> simp [Builtin.append_, run_underlying ht, sizeOf, typeInfo, hi, Builtin.lenOf, Builtin.firstCells, loadCells, loadCellsFrom]
  · cases A <;> simp [Builtin.append_, run_underlying ht, sizeOf, typeInfo, hi, Builtin.lenOf, Builtin.firstCells, hnc, storeCells, loadCells, loadCellsFrom]
theorem wp_cat {P : Program} {o : Oper} {a : Act} {K : Act → World → Prop} {Q : Exit → Act → World → Prop} (s x : Operand) (t : TypeId)
    (ho : o.op = .call { callee := .builtin .append, args := #[s, x], argTypes := #[t, t] })
    {e : TypeId} {z : Value} {size bytes : Nat} (ht : ElemT P t e z size bytes) {w0 w : World} {v : Value} {n : Nat} {xs : List Value} (hs : a.eval s = v) (hown : Own w0 w e size v n xs)
    {A : Option Addr} {m c : Nat} {news : List Value} (hx : a.eval x = .slice A m c) (hsl : Sl w A m c size news) (h1 : ∀ u ∈ news, u.oneCell' = true)
    (hroom : (n + m) * bytes ≤ 140737488355328)
    (h : ∀ v' w', Own w0 w' e size v' (n + m) (xs ++ news) → K (a.put o.dst v') w') : o.wp P a w K Q := by
  obtain ⟨i, hi, hz, hsz, hby⟩ := info_parts ht.info
  have hb1 : n + m ≤ (n + m) * bytes := Nat.le_mul_of_pos_right _ ht.bpos
  have : ∃ v' w', (Builtin.append_ #[t, t] o.type #[v, .slice A m c]).run P w = .ok v' w' ∧ Own w0 w' e size v' (n + m) (xs ++ news) := by
    rcases Nat.eq_zero_or_pos m with hm | hm
    · subst hm
      have hn : news = [] := List.eq_nil_of_length_eq_zero (by simpa using hsl.1)
      subst hn
      exact ⟨v, w, run_append_nothing w ht.und hi hown.1 A c, by simpa using hown⟩
    · obtain ⟨b, off, rfl, hc⟩ := hsl.addr hm
      obtain ⟨v', w', hrun, h2, h3, _, _⟩ := run_append_own_at (P := P) w w0.heap.size t o.type e i z size bytes ht.und hi hz hsz hby ht.cells ht.pos v n xs hown.1 ⟨b, off, none⟩ m c news hsl.1
        (fun j u hu => by
          have he : (Addr.mk b off none).add j = ⟨b, off + j, none⟩ := by unfold Addr.add; split <;> simp_all
          rw [he]; exact hc j u hu) h1 (by simp only [maxLen]; omega) hroom hown.2.size
      exact ⟨v', w', hrun, h2, hown.2.grown h3 hown.2.size (fun k hk => (hown.1.lt k hk).1)⟩
  obtain ⟨v', w', hrun, h2⟩ := this
  unfold Oper.wp execOp
  simp only [ho, resolve, invoke, builtin, Sem.run_bind, Sem.run_pure, Result.andThen_ok, List.map_toArray, List.map_cons, List.map_nil, hs, hx, hrun]
  exact h v' w' h2
theorem wpList_cat {P : Program} {ops : Array Oper} {rest : List Oper} {o : Oper} {a : Act} {Q : Exit → Act → World → Prop} (hgd : o.guard = none) (s x : Operand) (t : TypeId)
    (ho : o.op = .call { callee := .builtin .append, args := #[s, x], argTypes := #[t, t] })
    {e : TypeId} {z : Value} {size bytes : Nat} (ht : ElemT P t e z size bytes) {w0 w : World} {v : Value} {n : Nat} {xs : List Value} (hs : a.eval s = v) (hown : Own w0 w e size v n xs)
    {A : Option Addr} {m c : Nat} {news : List Value} (hx : a.eval x = .slice A m c) (hsl : Sl w A m c size news) (h1 : ∀ u ∈ news, u.oneCell' = true)
    (hroom : (n + m) * bytes ≤ 140737488355328)
    (h : ∀ v' w', Own w0 w' e size v' (n + m) (xs ++ news) → wpList P ops Q rest (a.put o.dst v') w') : wpList P ops Q (o :: rest) a w :=
  wpList_plain hgd fun _ hK => wp_cat s x t ho ht hs hown hx hsl h1 hroom fun v' w' h2 => hK _ _ (h v' w' h2)
theorem one_bytes (l : List UInt8) : ∀ u ∈ l.map u8c, u.oneCell' = true := by intro u hu; obtain ⟨x, _, rfl⟩ := List.mem_map.1 hu; rfl
/-- Parts of a slice of one-cell elements. -/
theorem Sl.upto {w : World} {A : Option Addr} {n c : Nat} {xs : List Value} (h : Sl w A n c 1 xs) {k : Nat} (hk : k ≤ n) : Sl w A k c 1 (xs.take k) := by
  have hl := h.len
  refine ⟨by simp; omega, by have := h.cap; omega, h.2.2.1, fun hn => ?_⟩
  obtain ⟨b, o, rfl, hc⟩ := h.addr (by omega)
  exact ⟨b, o, rfl, fun j u hu => hc j u (by
    have hj : j < k := by have := (List.getElem?_eq_some_iff.1 hu).1; simp at this; omega
    rw [List.getElem?_take_of_lt hj] at hu; exact hu)⟩
theorem Sl.from {w : World} {A A' : Option Addr} {n c : Nat} {xs : List Value} (h : Sl w A n c 1 xs) {k : Nat} (hk : k ≤ n) (hA : k < n → ∀ b o, A = some ⟨b, o, none⟩ → A' = some ⟨b, o + k, none⟩) : Sl w A' (n - k) (c - k) 1 (xs.drop k) := by
  have hl := h.len
  refine ⟨by simp; omega, by have := h.cap; omega, by have := h.2.2.1; omega, fun hn => ?_⟩
  obtain ⟨b, o, rfl, hc⟩ := h.addr (by omega)
  exact ⟨b, o + k, hA (by omega) b o rfl, fun j u hu => by
    rw [List.getElem?_drop] at hu
    have := hc _ u hu
    rw [Nat.add_assoc]; exact this⟩

/-! ### a block that is known whole -/
def Blk (w : World) (g : Nat) (t : TypeId) (cs : List Value) : Prop := w.heap[g]? = some (.cells cs.toArray t (0, 0))
section
variable {w w' : World} {g : Nat} {t : TypeId} {cs : List Value}
theorem Blk.lt (h : Blk w g t cs) : g < w.heap.size := (Array.getElem?_eq_some_iff.1 h).1
theorem Blk.cell (h : Blk w g t cs) (i : Nat) : w.cell? ⟨g, i, none⟩ = cs[i]? := by
  unfold Blk at h
  simp [World.cell?, h]
theorem Blk.free (h : Blk w g t cs) (i : Nat) : w.frozen? ⟨g, i, none⟩ = false := by
  unfold Blk at h
  simp [World.frozen?, h]
theorem Blk.new (w : World) (t : TypeId) (cs : Array Value) : Blk (w.alloc (.cells cs t)) w.heap.size t cs.toList := heap_alloc_new w _
theorem Blk.drew (h : Blk w g t cs) : Blk w.drew g t cs := h
theorem Blk.set (h : Blk w g t cs) (i : Nat) (u : Value) : Blk (w.setCell ⟨g, i, none⟩ u) g t (cs.set i u) := by
  unfold Blk at h ⊢
  simp [World.setCell, Array.getElem?_modify, h]
theorem Blk.far (h : Blk w g t cs) {p : Addr} (hp : g ≠ p.block) (u : Value) : Blk (w.setCell p u) g t cs := (Below.heap_setCell w p u g hp).trans h
theorem Blk.mono (h : Blk w g t cs) (hb : Below w.heap.size w w') : Blk w' g t cs := (hb.block g h.lt).trans h
theorem Blk.below {B : Nat} (h : Blk w g t cs) (hb : Below B w w') (hg : g < B) : Blk w' g t cs := (hb.block g hg).trans h
theorem Blk.alloc (h : Blk w g t cs) (o : Obj) : Blk (w.alloc o) g t cs := (Below.heap_alloc w o g h.lt).trans h
/-- A slice over a whole block that the call has made is the call's own. -/
theorem Blk.own {w0 : World} {size n : Nat} (h : Blk w g t cs) (hg : w0.heap.size ≤ g) (hb : Below w0.heap.size w0 w) (hn : cs.length = n * size) (hm : n ≤ maxLen) :
    Own w0 w t size (.slice (some ⟨g, 0, none⟩) n n) n cs :=
  ⟨⟨hn, .inr ⟨g, n, cs.toArray, rfl, hg, h, Nat.le_refl _, hm, by simp [hn], by simp [← hn]⟩⟩, hb⟩
end

/-- n times the same cell (a name that the walk does not open). -/
def reps (n : Nat) (z : Value) : List Value := List.replicate n z
theorem reps_length (n : Nat) (z : Value) : (reps n z).length = n := by simp [reps]
theorem reps_at {n j : Nat} (z : Value) (h : j < n) : (reps n z)[j]? = some z := by simp [reps, h]

/-- 'make([]T, n)', T of one cell: for every world. -/
theorem run_mk {P : Program} {t e : TypeId} {z : Value} {bytes : Nat} (ht : ElemT P t e z 1 bytes) (hz1 : z.cells = #[z]) (n : Nat) (h : n * bytes ≤ 281474976710656) (w : World) :
    (Instr.makeSlice t (.int .i64 (n : Int)) (.int .i64 (n : Int))).run P w = .ok (.slice (some ⟨w.heap.size, 0, none⟩) n n) (w.alloc (.cells (reps n z).toArray e)) := by
  obtain ⟨i, hi, hz, hsz, hby⟩ := info_parts ht.info
  have hb := ht.bpos
  have hn : n ≤ n * bytes := Nat.le_mul_of_pos_right _ hb
  have hr := run_make (P := P) w t e i z ht.und hi hz .i64 .i64 n n (by omega) (by omega) (by rw [hby, Int.mul_comm]; omega) (by omega)
  simp only [Int.toNat_natCast, hsz, Nat.mul_one] at hr
  rw [hr]
  have hc : madeCells z.cells n = (reps n z).toArray := by
    unfold madeCells reps
    rw [hz1]
    apply Array.ext
    · simp
    · intro j hj1 hj2
      simp only [Array.getElem_map, Array.getElem_range, List.getElem_toArray, List.getElem_replicate]
      have : (#[z] : Array Value).size = 1 := rfl
      rw [this, Nat.mod_one]; rfl
  rw [hc]

end Go.Proofs.YtcfbbgbjlgonpaaGreatDoor
