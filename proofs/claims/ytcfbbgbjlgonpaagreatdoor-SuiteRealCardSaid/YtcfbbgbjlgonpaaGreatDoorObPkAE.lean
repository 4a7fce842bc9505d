/- Own texts of this claim, one behind the other. No condition. -/
import Derived.Test.YtcfbbgbjlgonpaaGreatDoorObPkAA
import Derived.Test.YtcfbbgbjlgonpaaGreatDoorObPkAD

namespace Go.Proofs.YtcfbbgbjlgonpaaGreatDoor
open Go.RowKit
set_option linter.unusedVariables false

/-! ### append, and what else the call has made stays -/
/-- From w to w' only v's own row has turned; v' lies where v lay, or in new memory. -/
def Kept (w w' : World) (v v' : Value) : Prop := (∀ b, b < w.heap.size → v.ownBlock ≠ some b → w'.heap[b]? = w.heap[b]?) ∧ w.heap.size ≤ w'.heap.size ∧ (v'.ownBlock = v.ownBlock ∨ v'.ownBlock = some w.heap.size)
/-- A row of bytes that does not lie in v's own memory. -/
def Apart (v : Value) (r : BRow) : Prop := ∀ b o, 0 < r.n → r.a = some ⟨b, o, none⟩ → v.ownBlock ≠ some b
theorem Apart.nil (r : BRow) : Apart (.slice none 0 0) r := fun b o _ _ h => by cases h
theorem Bs.kept {w w' : World} {v v' : Value} {r : BRow} (h : Bs w r.a r.n r.c r.l) (hk : Kept w w' v v') (ha : Apart v r) : Bs w' r.a r.n r.c r.l ∧ Apart v' r := by
  obtain ⟨h1, h2, h3, h4⟩ := h
  refine ⟨⟨h1, h2, h3, fun hn => ?_⟩, ?_⟩
  · obtain ⟨b, o, e, hc⟩ := h4 hn
    refine ⟨b, o, e, fun j u hu => ?_⟩
    have hcell := hc j u hu
    have hlt := World.block_lt_of_cell? w _ hcell
    rw [World.cell?_of_block (w := w) (hk.1 b hlt (ha b o hn e))]
    exact hcell
  · intro b o hn e
    obtain ⟨b', o', e', hc⟩ := h4 hn
    rw [e'] at e
    injection e with e
    injection e with e1 e2
    subst e1
    have hl : 0 < (r.l.map u8c).length := by have := h1; omega
    have hcell := hc 0 _ (List.getElem?_eq_getElem hl)
    have hlt := World.block_lt_of_cell? w _ hcell
    rcases hk.2.2 with h | h
    · rw [h]; exact ha b' o' hn e'
    · rw [h]; intro e; injection e with e; have : b' < w.heap.size := hlt; omega
theorem Bs.lt {w : World} {r : BRow} (h : Bs w r.a r.n r.c r.l) (hn : 0 < r.n) (b o : Nat) (e : r.a = some ⟨b, o, none⟩) : b < w.heap.size := by
  obtain ⟨h1, h2, h3, h4⟩ := h
  obtain ⟨b', o', e', hc⟩ := h4 hn
  rw [e'] at e
  injection e with e
  injection e with e1 e2
  subst e1
  have hl : 0 < (r.l.map u8c).length := by have := h1; omega
  exact World.block_lt_of_cell? w _ (hc 0 _ (List.getElem?_eq_getElem hl))
/-- A row that lay there when the call began. -/
theorem Apart.old {w0 w : World} {e : TypeId} {size n : Nat} {v : Value} {xs : List Value} {r : BRow} (h : Own w0 w e size v n xs) (hr : Bs w0 r.a r.n r.c r.l) : Apart v r := fun b o hn e hv => by
  have h1 := (h.1.lt b hv).1
  have h2 := hr.lt hn b o e
  omega
/-- A row that lies in memory made behind w. -/
theorem Apart.new {w0 w w1 : World} {e e1 : TypeId} {size s1 n n1 : Nat} {v : Value} {A : Option Addr} {m c : Nat} {xs xs1 : List Value} {l : List UInt8} (h : Own w0 w e size v n xs) (hr : Own w w1 e1 s1 (.slice A m c) n1 xs1) : Apart v ⟨A, m, c, l⟩ := fun b o hn e hv => by
  have h1 := (h.1.lt b hv).2
  have e : A = some ⟨b, o, none⟩ := e
  have h2 := (hr.1.lt b (by rw [e]; rfl)).1
  omega

theorem wp_pushG {P : Program} {o : Oper} {a : Act} {K : Act → World → Prop} {Q : Exit → Act → World → Prop} (s x : Operand) (t : TypeId)
    (ho : o.op = .call { callee := .builtin .append, args := #[s, x], argTypes := #[t, t] })
    {e : TypeId} {z : Value} {size bytes : Nat} (ht : ElemT P t e z size bytes) {w0 w : World} {v : Value} {n : Nat} {xs : List Value} (hs : a.eval s = v) (hown : Own w0 w e size v n xs)
    (g c : Nat) (cs : List Value) (hx : a.eval x = .slice (some ⟨g, 0, none⟩) 1 c) (hl : cs.length = size) (h1 : ∀ u ∈ cs, u.oneCell' = true)
    (hc : ∀ j u, cs[j]? = some u → w.cell? ⟨g, j, none⟩ = some u)
    (hroom : (n + 1) * bytes ≤ 140737488355328)
    (h : ∀ v' w', Own w0 w' e size v' (n + 1) (xs ++ cs) → Kept w w' v v' → K (a.put o.dst v') w') : o.wp P a w K Q := by
  obtain ⟨i, hi, hz, hsz, hby⟩ := info_parts ht.info
  have hb1 : n + 1 ≤ (n + 1) * bytes := Nat.le_mul_of_pos_right _ ht.bpos
  obtain ⟨v', w', hrun, h2, h3, _, h5⟩ := run_append_own_at (P := P) w w0.heap.size t o.type e i z size bytes ht.und hi hz hsz hby ht.cells ht.pos v n xs hown.1 ⟨g, 0, none⟩ 1 c cs (by simp [hl])
    (fun j u hu => by
      have he : (Addr.mk g 0 none).add j = ⟨g, j, none⟩ := by unfold Addr.add; split <;> simp_all
      rw [he]; exact hc j u hu) h1 (by simp only [maxLen]; omega) hroom hown.2.size
  unfold Oper.wp execOp
  simp only [ho, resolve, invoke, builtin, Sem.run_bind, Sem.run_pure, Result.andThen_ok, List.map_toArray, List.map_cons, List.map_nil, hs, hx, hrun]
  refine h v' w' ⟨h2, hown.2.grown h3 hown.2.size (fun k hk => (hown.1.lt k hk).1)⟩ ⟨fun b hb hne => ?_, h3.size, h5⟩
  exact h3.block b hb (fun e => hne e.symm)
theorem step_pushG {P : Program} {ops : Array Oper} {o : Oper} {a : Act} {K : Act → World → Prop} {Q : Exit → Act → World → Prop} {E : Prop} (hgd : o.guard = none) (s x : Operand) (t : TypeId)
    (ho : o.op = .call { callee := .builtin .append, args := #[s, x], argTypes := #[t, t] })
    {e : TypeId} {z : Value} {size bytes : Nat} (ht : ElemT P t e z size bytes) {w0 w : World} {v : Value} {n : Nat} {xs : List Value} (hs : a.eval s = v) (hown : Own w0 w e size v n xs)
    (g c : Nat) (cs : List Value) (hx : a.eval x = .slice (some ⟨g, 0, none⟩) 1 c) (hl : cs.length = size) (h1 : ∀ u ∈ cs, u.oneCell' = true)
    (hc : ∀ j u, cs[j]? = some u → w.cell? ⟨g, j, none⟩ = some u)
    (hroom : (n + 1) * bytes ≤ 140737488355328)
    (h : ∀ v' w', Own w0 w' e size v' (n + 1) (xs ++ cs) → Kept w w' v v' → K (a.put o.dst v') w') :
    if Region.wanted o (yielded ops a.tmps) = true then Oper.wp P o a w K Q else E := by
  have hw : Region.wanted o (yielded ops a.tmps) = true := by simp [Region.wanted, hgd]
  rw [if_pos hw]
  exact wp_pushG s x t ho ht hs hown g c cs hx hl h1 hc hroom h
theorem wpList_pushG {P : Program} {ops : Array Oper} {rest : List Oper} {o : Oper} {a : Act} {Q : Exit → Act → World → Prop} (hgd : o.guard = none) (s x : Operand) (t : TypeId)
    (ho : o.op = .call { callee := .builtin .append, args := #[s, x], argTypes := #[t, t] })
    {e : TypeId} {z : Value} {size bytes : Nat} (ht : ElemT P t e z size bytes) {w0 w : World} {v : Value} {n : Nat} {xs : List Value} (hs : a.eval s = v) (hown : Own w0 w e size v n xs)
    (cs : Array Value) (hx : a.eval x = .slice (some ⟨w.heap.size, 0, none⟩) 1 1) (hl : cs.size = size) (h1 : ∀ u ∈ cs.toList, u.oneCell' = true)
    (hroom : (n + 1) * bytes ≤ 140737488355328)
    (h : ∀ v' w', Own w0 w' e size v' (n + 1) (xs ++ cs.toList) → Kept (w.alloc (.cells cs e)) w' v v' → wpList P ops Q rest (a.put o.dst v') w') : wpList P ops Q (o :: rest) a (w.alloc (.cells cs e)) :=
  wpList_plain hgd fun _ hK => wp_pushG s x t ho ht hs (hown.alloc _) w.heap.size 1 cs.toList hx (by simpa using hl) h1 (fun j u hu => by
    have hj : (w.alloc (.cells cs e)).heap[w.heap.size]? = some (.cells cs e) := heap_alloc_new w _
    simp only [World.cell?, hj]
    simpa using hu) hroom fun v' w' h2 h3 => hK _ _ (h v' w' h2 h3)

/-- Rows that the call has gathered in its own slice v. -/
def Gath (w0 w : World) (t : TypeId) (v : Value) (R : List BRow) : Prop := Own w0 w t 1 v R.length (R.map BRow.v) ∧ ∀ r ∈ R, Bs w r.a r.n r.c r.l ∧ Apart v r
theorem Gath.nil (w : World) (t : TypeId) : Gath w w t (.slice none 0 0) [] := ⟨Own.nil _ _ _, fun r hr => by cases hr⟩
theorem Gath.mono {w0 w w' : World} {t : TypeId} {v : Value} {R : List BRow} (h : Gath w0 w t v R) (hb : Below w.heap.size w w') : Gath w0 w' t v R := ⟨h.1.mono hb, fun r hr => ⟨(h.2 r hr).1.mono hb, (h.2 r hr).2⟩⟩
theorem Gath.push {w0 w w' : World} {t : TypeId} {v v' : Value} {R : List BRow} {r : BRow} (h : Gath w0 w t v R) (hr : Bs w r.a r.n r.c r.l) (ha : Apart v r) {cs : Array Value} (ho : Own w0 w' t 1 v' (R.length + 1) (R.map BRow.v ++ [r.v])) (hk : Kept (w.alloc (.cells cs t)) w' v v') : Gath w0 w' t v' (R ++ [r]) := by
  have hb := (Below.refl w.heap.size w).alloc (Nat.le_refl _) (.cells cs t)
  refine ⟨by rw [List.length_append, List.map_append]; exact ho, fun x hx => ?_⟩
  rcases List.mem_append.1 hx with hx | hx
  · exact Bs.kept (r := x) ((h.2 x hx).1.mono hb) hk (h.2 x hx).2
  · obtain rfl : x = r := by simpa using hx
    exact Bs.kept (r := x) (hr.mono hb) hk ha
theorem Gath.bss {w0 w : World} {t : TypeId} {v : Value} {R : List BRow} (h : Gath w0 w t v R) : ∃ A c, v = .slice A R.length c ∧ Bss w A R.length c R := by
  obtain ⟨A, c, rfl, hs⟩ := h.1.slice
  exact ⟨A, c, rfl, hs, fun r hr => (h.2 r hr).1⟩

theorem Kept.refl (w : World) (v : Value) : Kept w w v v := ⟨fun _ _ _ => rfl, Nat.le_refl _, .inl rfl⟩
/-- 'append(s, x...)': s the call's own; x whatever slice; what else the call has made stays. -/
theorem wp_catG {P : Program} {o : Oper} {a : Act} {K : Act → World → Prop} {Q : Exit → Act → World → Prop} (s x : Operand) (t : TypeId)
    (ho : o.op = .call { callee := .builtin .append, args := #[s, x], argTypes := #[t, t] })
    {e : TypeId} {z : Value} {size bytes : Nat} (ht : ElemT P t e z size bytes) {w0 w : World} {v : Value} {n : Nat} {xs : List Value} (hs : a.eval s = v) (hown : Own w0 w e size v n xs)
    {A : Option Addr} {m c : Nat} {news : List Value} (hx : a.eval x = .slice A m c) (hsl : Sl w A m c size news) (h1 : ∀ u ∈ news, u.oneCell' = true)
    (hroom : (n + m) * bytes ≤ 140737488355328)
    (h : ∀ v' w', Own w0 w' e size v' (n + m) (xs ++ news) → Kept w w' v v' → K (a.put o.dst v') w') : o.wp P a w K Q := by
  obtain ⟨i, hi, hz, hsz, hby⟩ := info_parts ht.info
  have hb1 : n + m ≤ (n + m) * bytes := Nat.le_mul_of_pos_right _ ht.bpos
  have : ∃ v' w', (Builtin.append_ #[t, t] o.type #[v, .slice A m c]).run P w = .ok v' w' ∧ Own w0 w' e size v' (n + m) (xs ++ news) ∧ Kept w w' v v' := by
    rcases Nat.eq_zero_or_pos m with hm | hm
    · subst hm
      have hn : news = [] := List.eq_nil_of_length_eq_zero (by simpa using hsl.1)
      subst hn
      exact ⟨v, w, run_append_nothing w ht.und hi hown.1 A c, by simpa using hown, Kept.refl w v⟩
    · obtain ⟨b, off, rfl, hc⟩ := hsl.addr hm
      obtain ⟨v', w', hrun, h2, h3, _, h5⟩ := run_append_own_at (P := P) w w0.heap.size t o.type e i z size bytes ht.und hi hz hsz hby ht.cells ht.pos v n xs hown.1 ⟨b, off, none⟩ m c news hsl.1
        (fun j u hu => by
          have he : (Addr.mk b off none).add j = ⟨b, off + j, none⟩ := by unfold Addr.add; split <;> simp_all
          rw [he]; exact hc j u hu) h1 (by simp only [maxLen]; omega) hroom hown.2.size
      exact ⟨v', w', hrun, ⟨h2, hown.2.grown h3 hown.2.size (fun k hk => (hown.1.lt k hk).1)⟩, fun b hb hne => h3.block b hb (fun e => hne e.symm), h3.size, h5⟩
  obtain ⟨v', w', hrun, h2, h3⟩ := this
  unfold Oper.wp execOp
  simp only [ho, resolve, invoke, builtin, Sem.run_bind, Sem.run_pure, Result.andThen_ok, List.map_toArray, List.map_cons, List.map_nil, hs, hx, hrun]
  exact h v' w' h2 h3
theorem wpList_catG {P : Program} {ops : Array Oper} {rest : List Oper} {o : Oper} {a : Act} {Q : Exit → Act → World → Prop} (hgd : o.guard = none) (s x : Operand) (t : TypeId)
    (ho : o.op = .call { callee := .builtin .append, args := #[s, x], argTypes := #[t, t] })
    {e : TypeId} {z : Value} {size bytes : Nat} (ht : ElemT P t e z size bytes) {w0 w : World} {v : Value} {n : Nat} {xs : List Value} (hs : a.eval s = v) (hown : Own w0 w e size v n xs)
    {A : Option Addr} {m c : Nat} {news : List Value} (hx : a.eval x = .slice A m c) (hsl : Sl w A m c size news) (h1 : ∀ u ∈ news, u.oneCell' = true)
    (hroom : (n + m) * bytes ≤ 140737488355328)
    (h : ∀ v' w', Own w0 w' e size v' (n + m) (xs ++ news) → Kept w w' v v' → wpList P ops Q rest (a.put o.dst v') w') : wpList P ops Q (o :: rest) a w :=
  wpList_plain hgd fun _ hK => wp_catG s x t ho ht hs hown hx hsl h1 hroom fun v' w' h2 h3 => hK _ _ (h v' w' h2 h3)
theorem step_catG {P : Program} {ops : Array Oper} {o : Oper} {a : Act} {K : Act → World → Prop} {Q : Exit → Act → World → Prop} {E : Prop} (hgd : o.guard = none) (s x : Operand) (t : TypeId)
    (ho : o.op = .call { callee := .builtin .append, args := #[s, x], argTypes := #[t, t] })
    {e : TypeId} {z : Value} {size bytes : Nat} (ht : ElemT P t e z size bytes) {w0 w : World} {v : Value} {n : Nat} {xs : List Value} (hs : a.eval s = v) (hown : Own w0 w e size v n xs)
    {A : Option Addr} {m c : Nat} {news : List Value} (hx : a.eval x = .slice A m c) (hsl : Sl w A m c size news) (h1 : ∀ u ∈ news, u.oneCell' = true)
    (hroom : (n + m) * bytes ≤ 140737488355328)
    (h : ∀ v' w', Own w0 w' e size v' (n + m) (xs ++ news) → Kept w w' v v' → K (a.put o.dst v') w') :
    if Region.wanted o (yielded ops a.tmps) = true then Oper.wp P o a w K Q else E := by
  have hw : Region.wanted o (yielded ops a.tmps) = true := by simp [Region.wanted, hgd]
  rw [if_pos hw]
  exact wp_catG s x t ho ht hs hown hx hsl h1 hroom h
end Go.Proofs.YtcfbbgbjlgonpaaGreatDoor

/- ObSmall, ObSetB: one text. No condition. -/
namespace Go.Proofs.YtcfbbgbjlgonpaaGreatDoor
/-- A slice's length. -/
def slN : Value → Nat
  | .slice _ n _ => n
  | _ => 0
theorem Sl.keepB {w w' : World} {A : Option Addr} {n c s : Nat} {xs : List Value} (h : Sl w A n c s xs) (hp : ∀ b o, A = some ⟨b, o, none⟩ → w'.heap[b]? = w.heap[b]?) : Sl w' A n c s xs := by
  obtain ⟨h1, h2, h3, h4⟩ := h
  refine ⟨h1, h2, h3, fun hn => ?_⟩
  obtain ⟨b, o, rfl, hc⟩ := h4 hn
  refine ⟨b, o, rfl, fun j u hu => ?_⟩
  rw [World.cell?_of_block (w := w) (hp b o rfl)]
  exact hc j u hu
end Go.Proofs.YtcfbbgbjlgonpaaGreatDoor
namespace Go.Proofs.YtcfbbgbjlgonpaaGreatDoor
open Go.RowKit
set_option linter.unusedVariables false
theorem Below.setBoth {B : Nat} {a b : World} (h : Below B a b) {p : Nat} (i : Nat) (x : Value) : Below B (a.setCell ⟨p, i, none⟩ x) (b.setCell ⟨p, i, none⟩ x) := by
  obtain ⟨h1, h2, h3, h4, h5⟩ := h
  refine ⟨h1, h2, h3, by simpa [World.setCell] using h4, fun k hk => ?_⟩
  have := h5 k hk
  by_cases e : k = p
  · subst e
    simp [World.setCell, Array.getElem?_modify, this]
  · rw [Below.heap_setCell b _ _ k e, Below.heap_setCell a _ _ k e]; exact this
theorem Below.setTwice {B : Nat} {a : World} (p i : Nat) (x y : Value) : Below B (a.setCell ⟨p, i, none⟩ y) ((a.setCell ⟨p, i, none⟩ x).setCell ⟨p, i, none⟩ y) := by
  refine ⟨rfl, rfl, rfl, by simp [World.setCell], fun k hk => ?_⟩
  by_cases e : k = p
  · subst e
    simp only [World.setCell, Array.getElem?_modify]
    cases a.heap[k]? with
    | none => simp
    | some o => cases o <;> simp
  · rw [Below.heap_setCell _ _ _ k e, Below.heap_setCell _ _ _ k e, Below.heap_setCell _ _ _ k e]
theorem setCell_size (a : World) (p : Addr) (x : Value) : (a.setCell p x).heap.size = a.heap.size := by simp [World.setCell]
end Go.Proofs.YtcfbbgbjlgonpaaGreatDoor

namespace Go.Proofs.YtcfbbgbjlgonpaaGreatDoor
open Go.RowKit
set_option linter.unusedVariables false

/-! ### chains: what was skipped, copied; where a gen is -/
def Wr.kk (x : Wr) : Int × List UInt8 := (x.p, x.r.l)
theorem Wr.ones (x : Wr) : ∀ u ∈ x.cells, u.oneCell' = true := by intro u hu; simp [Wr.cells, BRow.v] at hu; rcases hu with rfl | rfl <;> rfl
/-- Skipped keys in a row of the call's own, each one's bytes elsewhere. -/
def OwnK (t : TypeId) (w0 w : World) (v : Value) (M : List Wr) : Prop := Own w0 w t 2 v M.length (M.flatMap Wr.cells) ∧ ∀ x ∈ M, (Bs w x.r.a x.r.n x.r.c x.r.l ∧ Apart v x.r) ∧ -9223372036854775808 ≤ x.p ∧ x.p ≤ 9223372036854775807
def FreshK (w0 : World) (r : BRow) : Prop := ∀ b o, 0 < r.n → r.a = some ⟨b, o, none⟩ → w0.heap.size ≤ b
theorem OwnK.wrs {t : TypeId} {w0 w : World} {v : Value} {M : List Wr} (h : OwnK t w0 w v M) : ∃ A c, v = .slice A M.length c ∧ Wrs w A M.length c M := by
  obtain ⟨A', c', rfl, hs⟩ := h.1.slice
  exact ⟨A', c', rfl, rfl, hs, fun x hx => ⟨(h.2 x hx).1.1, (h.2 x hx).2⟩⟩
theorem OwnK.mono {t : TypeId} {w0 w w' : World} {v : Value} {M : List Wr} (h : OwnK t w0 w v M) (hb : Below w.heap.size w w') : OwnK t w0 w' v M := ⟨h.1.mono hb, fun x hx => ⟨⟨(h.2 x hx).1.1.mono hb, (h.2 x hx).1.2⟩, (h.2 x hx).2⟩⟩
theorem OwnK.base {t : TypeId} {w0 w1 w : World} {v : Value} {M : List Wr} (h : OwnK t w1 w v M) (hb : Below w0.heap.size w0 w1) : OwnK t w0 w v M := ⟨h.1.base hb, h.2⟩
def firstK (g : Int) (L : List Wr) (r : Int) : Prop := (r = -1 ∧ L.all (fun x => !(x.p == g)) = true) ∨ ∃ k : Nat, r = k ∧ k < L.length ∧ (L.take k).all (fun x => !(x.p == g)) = true ∧ ∃ x, L[k]? = some x ∧ (x.p == g) = true
/-- The place of a gen; -1: none. -/
def idxK (g : Int) (L : List Wr) : Int := match L.findIdx? (fun x => x.p == g) with
  | some k => k
  | none => -1
theorem firstK_eq {g : Int} {L : List Wr} {r : Int} (h : firstK g L r) : r = idxK g L := by
  unfold idxK
  rcases h with ⟨rfl, ha⟩ | ⟨k, rfl, hk, ha, x, hx, he⟩
  · rw [List.findIdx?_eq_none_iff.2 (fun x hx => by have := List.all_eq_true.1 ha x hx; simpa using this)]
  · have e : L[k] = x := by rw [List.getElem?_eq_getElem hk] at hx; exact Option.some.inj hx
    have : L.findIdx? (fun x => x.p == g) = some k := by
      rw [List.findIdx?_eq_some_iff_getElem]
      refine ⟨hk, by rw [e]; exact he, fun j hj => ?_⟩
      have := List.all_eq_true.1 ha L[j] (List.mem_iff_getElem.2 ⟨j, by rw [List.length_take]; omega, by rw [List.getElem_take]⟩)
      simpa using this
    rw [this]
def hasK (p0 : Int) (L : List Wr) (g : Int) : Bool := decide (p0 ≤ g) || decide (0 ≤ idxK g L)
end Go.Proofs.YtcfbbgbjlgonpaaGreatDoor
