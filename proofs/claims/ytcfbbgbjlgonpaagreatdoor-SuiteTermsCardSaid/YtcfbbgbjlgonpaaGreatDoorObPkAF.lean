/- Own texts of this claim, one behind the other. No condition. -/
import Derived.Test.YtcfbbgbjlgonpaaGreatDoorObPkAA
import Derived.Test.YtcfbbgbjlgonpaaGreatDoorObPkAE
import Derived.Test.YtcfbbgbjlgonpaaGreatDoorProg
import Derived.Deep.QuietTactic
import Derived.BigQuiet
import Init
import Derived.Maps.Own
import Derived.Maps.OwnSet
import Derived.Maps.Views

namespace Go.Proofs.YtcfbbgbjlgonpaaGreatDoor
open Go.RowKit
set_option linter.unusedVariables false

/-! ### append, and what else the call has made stays -/
/-- From w to w' only v's own row has turned; v' lies where v lay, or in new memory. -/
def Kept (w w' : World) (v v' : Value) : Prop := (∀ b, b < w.heap.size → v.ownBlock ≠ some b → w'.heap[b]? = w.heap[b]?) ∧ w.heap.size ≤ w'.heap.size ∧ (v'.ownBlock = v.ownBlock ∨ v'.ownBlock = some w.heap.size)
/-- A row of bytes that does not lie in v's own memory. -/
def Apart (v : Value) (r : BRow) : Prop := ∀ b o, 0 < r.n → r.a = some ⟨b, o, none⟩ → v.ownBlock ≠ some b
theorem Apart.nil (r : BRow) : Apart (.slice none 0 0) r := fun b o _ _ h => by cases h
theorem Bs.kept {w w' : World} {v v' : Value} {r : BRow} (h : Bs w r.a r.n r.c r.l) (hk : Kept w w' v v') (ha : Apart v r) : Bs w' r.a r.n r.c r.l ∧ Apart v' r := by
  obtain ⟨h1, h2, h3, h4⟩ := h
  refine ⟨⟨h1, h2, h3, fun hn => ?_⟩, ?_⟩
  · obtain ⟨b, o, e, hc⟩ := h4 hn
    refine ⟨b, o, e, fun j u hu => ?_⟩
    have hcell := hc j u hu
    have hlt := World.block_lt_of_cell? w _ hcell
    rw [World.cell?_of_block (w := w) (hk.1 b hlt (ha b o hn e))]
    exact hcell
  · intro b o hn e
    obtain ⟨b', o', e', hc⟩ := h4 hn
    rw [e'] at e
    injection e with e
    injection e with e1 e2
    subst e1
    have hl : 0 < (r.l.map u8c).length := by have := h1; omega
    have hcell := hc 0 _ (List.getElem?_eq_getElem hl)
    have hlt := World.block_lt_of_cell? w _ hcell
    rcases hk.2.2 with h | h
    · rw [h]; exact ha b' o' hn e'
    · rw [h]; intro e; injection e with e; have : b' < w.heap.size := hlt; omega
theorem Bs.lt {w : World} {r : BRow} (h : Bs w r.a r.n r.c r.l) (hn : 0 < r.n) (b o : Nat) (e : r.a = some ⟨b, o, none⟩) : b < w.heap.size := by
  obtain ⟨h1, h2, h3, h4⟩ := h
  obtain ⟨b', o', e', hc⟩ := h4 hn
  rw [e'] at e
  injection e with e
  injection e with e1 e2
  subst e1
  have hl : 0 < (r.l.map u8c).length := by have := h1; omega
  exact World.block_lt_of_cell? w _ (hc 0 _ (List.getElem?_eq_getElem hl))
/-- A row that lay there when the call began. -/
theorem Apart.old {w0 w : World} {e : TypeId} {size n : Nat} {v : Value} {xs : List Value} {r : BRow} (h : Own w0 w e size v n xs) (hr : Bs w0 r.a r.n r.c r.l) : Apart v r := fun b o hn e hv => by
  have h1 := (h.1.lt b hv).1
  have h2 := hr.lt hn b o e
  omega
/-- A row that lies in memory made behind w. -/
theorem Apart.new {w0 w w1 : World} {e e1 : TypeId} {size s1 n n1 : Nat} {v : Value} {A : Option Addr} {m c : Nat} {xs xs1 : List Value} {l : List UInt8} (h : Own w0 w e size v n xs) (hr : Own w w1 e1 s1 (.slice A m c) n1 xs1) : Apart v ⟨A, m, c, l⟩ := fun b o hn e hv => by
  have h1 := (h.1.lt b hv).2
  have e : A = some ⟨b, o, none⟩ := e
  have h2 := (hr.1.lt b (by rw [e]; rfl)).1
  omega

theorem wp_pushG {P : Program} {o : Oper} {a : Act} {K : Act → World → Prop} {Q : Exit → Act → World → Prop} (s x : Operand) (t : TypeId)
    (ho : o.op = .call { callee := .builtin .append, args := #[s, x], argTypes := #[t, t] })
    {e : TypeId} {z : Value} {size bytes : Nat} (ht : ElemT P t e z size bytes) {w0 w : World} {v : Value} {n : Nat} {xs : List Value} (hs : a.eval s = v) (hown : Own w0 w e size v n xs)
    (g c : Nat) (cs : List Value) (hx : a.eval x = .slice (some ⟨g, 0, none⟩) 1 c) (hl : cs.length = size) (h1 : ∀ u ∈ cs, u.oneCell' = true)
    (hc : ∀ j u, cs[j]? = some u → w.cell? ⟨g, j, none⟩ = some u)
    (hroom : (n + 1) * bytes ≤ 140737488355328)
    (h : ∀ v' w', Own w0 w' e size v' (n + 1) (xs ++ cs) → Kept w w' v v' → K (a.put o.dst v') w') : o.wp P a w K Q := by
  obtain ⟨i, hi, hz, hsz, hby⟩ := info_parts ht.info
  have hb1 : n + 1 ≤ (n + 1) * bytes := Nat.le_mul_of_pos_right _ ht.bpos
  obtain ⟨v', w', hrun, h2, h3, _, h5⟩ := run_append_own_at (P := P) w w0.heap.size t o.type e i z size bytes ht.und hi hz hsz hby ht.cells ht.pos v n xs hown.1 ⟨g, 0, none⟩ 1 c cs (by simp [hl])
    (fun j u hu => by
      have he : (Addr.mk g 0 none).add j = ⟨g, j, none⟩ := by unfold Addr.add; split <;> simp_all
      rw [he]; exact hc j u hu) h1 (by simp only [maxLen]; omega) hroom hown.2.size
  unfold Oper.wp execOp
  simp only [ho, resolve, invoke, builtin, Sem.run_bind, Sem.run_pure, Result.andThen_ok, List.map_toArray, List.map_cons, List.map_nil, hs, hx, hrun]
  refine h v' w' ⟨h2, hown.2.grown h3 hown.2.size (fun k hk => (hown.1.lt k hk).1)⟩ ⟨fun b hb hne => ?_, h3.size, h5⟩
  exact h3.block b hb (fun e => hne e.symm)
theorem wpList_pushG {P : Program} {ops : Array Oper} {rest : List Oper} {o : Oper} {a : Act} {Q : Exit → Act → World → Prop} (hgd : o.guard = none) (s x : Operand) (t : TypeId)
    (ho : o.op = .call { callee := .builtin .append, args := #[s, x], argTypes := #[t, t] })
    {e : TypeId} {z : Value} {size bytes : Nat} (ht : ElemT P t e z size bytes) {w0 w : World} {v : Value} {n : Nat} {xs : List Value} (hs : a.eval s = v) (hown : Own w0 w e size v n xs)
    (cs : Array Value) (hx : a.eval x = .slice (some ⟨w.heap.size, 0, none⟩) 1 1) (hl : cs.size = size) (h1 : ∀ u ∈ cs.toList, u.oneCell' = true)
    (hroom : (n + 1) * bytes ≤ 140737488355328)
    (h : ∀ v' w', Own w0 w' e size v' (n + 1) (xs ++ cs.toList) → Kept (w.alloc (.cells cs e)) w' v v' → wpList P ops Q rest (a.put o.dst v') w') : wpList P ops Q (o :: rest) a (w.alloc (.cells cs e)) :=
  wpList_plain hgd fun _ hK => wp_pushG s x t ho ht hs (hown.alloc _) w.heap.size 1 cs.toList hx (by simpa using hl) h1 (fun j u hu => by
    have hj : (w.alloc (.cells cs e)).heap[w.heap.size]? = some (.cells cs e) := heap_alloc_new w _
    simp only [World.cell?, hj]
    simpa using hu) hroom fun v' w' h2 h3 => hK _ _ (h v' w' h2 h3)

theorem Kept.refl (w : World) (v : Value) : Kept w w v v := ⟨fun _ _ _ => rfl, Nat.le_refl _, .inl rfl⟩
end Go.Proofs.YtcfbbgbjlgonpaaGreatDoor

/- What a call turns: a set of blocks, and new memory. No condition. -/
namespace Go.Proofs.YtcfbbgbjlgonpaaGreatDoor
open Go.RowKit
set_option linter.unusedVariables false
/-- From w to w' only the blocks of S have turned, and new ones have come. -/
structure Tch (S : Nat → Prop) (w w' : World) : Prop where
  bel : Below 0 w w'
  keep : ∀ b, b < w.heap.size → ¬ S b → w'.heap[b]? = w.heap[b]?
theorem Tch.size {S : Nat → Prop} {w w' : World} (h : Tch S w w') : w.heap.size ≤ w'.heap.size := h.bel.size
theorem Tch.gr {S : Nat → Prop} {w w' : World} (h : Gr w w') : Tch S w w' := ⟨Below.mono h (Nat.zero_le _), fun b hb _ => h.block b hb⟩
theorem Tch.refl {S : Nat → Prop} (w : World) : Tch S w w := Tch.gr (Gr.refl w)
theorem Tch.trans {S : Nat → Prop} {a b c : World} (h : Tch S a b) (k : Tch S b c) : Tch S a c :=
  ⟨h.bel.trans k.bel, fun x hx hs => (k.keep x (Nat.lt_of_lt_of_le hx h.size) hs).trans (h.keep x hx hs)⟩
theorem Tch.mono {S S' : Nat → Prop} {w w' : World} (h : Tch S w w') (hs : ∀ b, b < w.heap.size → S b → S' b) : Tch S' w w' := ⟨h.bel, fun b hb hn => h.keep b hb (fun q => hn (hs b hb q))⟩
theorem Tch.below {S : Nat → Prop} {B : Nat} {a w w' : World} (hb : Below B a w) (h : Tch S w w') (hB : B ≤ w.heap.size) (hS : ∀ b, S b → B ≤ b) : Below B a w' :=
  hb.trans ⟨h.bel.os, h.bel.tape, h.bel.output, h.size, fun k hk => h.keep k (by omega) (fun q => by have := hS k q; omega)⟩
theorem Tch.set {S : Nat → Prop} {w : World} (p : Addr) (u : Value) (hS : S p.block) : Tch S w (w.setCell p u) :=
  ⟨(Below.refl 0 w).setCell (Nat.zero_le _) u, fun b _ hn => Below.heap_setCell w p u b (fun e => hn (e ▸ hS))⟩
theorem Tch.grown {S : Nat → Prop} {w w' : World} {row : Option Nat} (hg : w.grownBy w' row) (hr : ∀ k, row = some k → S k) : Tch S w w' :=
  ⟨(Below.refl 0 w).grown hg (Nat.zero_le _) (fun _ _ => Nat.zero_le _), fun b hb hn => hg.block b hb (fun e => hn (hr b e.symm))⟩
section
variable {S : Nat → Prop} {w w' : World}
theorem Blk.tch {g : Nat} {t : TypeId} {cs : List Value} (h : Blk w g t cs) (k : Tch S w w') (hn : ¬ S g) : Blk w' g t cs := (k.keep g h.lt hn).trans h
theorem Sl.lt {A : Option Addr} {n c s : Nat} {xs : List Value} (h : Sl w A n c s xs) (hs : 0 < s) (hn : 0 < n) {b o : Nat} (e : A = some ⟨b, o, none⟩) : b < w.heap.size := by
  obtain ⟨h1, _, _, h4⟩ := h
  obtain ⟨b', o', e', hc⟩ := h4 hn
  rw [e] at e'
  injection e' with e'
  injection e' with e1 e2
  subst e1
  have hl : 0 < xs.length := by rw [h1]; exact Nat.mul_pos hn hs
  have hcell := hc 0 _ (List.getElem?_eq_getElem hl)
  exact World.block_lt_of_cell? w _ hcell
theorem Sl.tch {A : Option Addr} {n c s : Nat} {xs : List Value} (h : Sl w A n c s xs) (hs : 0 < s) (k : Tch S w w') (hn : 0 < n → ∀ b o, A = some ⟨b, o, none⟩ → ¬ S b) : Sl w' A n c s xs := by
  refine ⟨h.1, h.2.1, h.2.2.1, fun h0 => ?_⟩
  obtain ⟨b, o, e, hc⟩ := h.2.2.2 h0
  refine ⟨b, o, e, fun j u hu => ?_⟩
  rw [World.cell?_of_block (w := w) (a := ⟨b, o + j, none⟩) (k.keep b (Sl.lt h hs h0 e) (hn h0 b o e))]
  exact hc j u hu
theorem Own.tch {w0 : World} {e : TypeId} {s n : Nat} {v : Value} {xs : List Value} (h : Own w0 w e s v n xs) (k : Tch S w w') (hB : ∀ b, S b → w0.heap.size ≤ b) (hn : ∀ b, v.ownBlock = some b → ¬ S b) : Own w0 w' e s v n xs := by
  have hb : Below w0.heap.size w0 w' := k.below h.2 h.2.size hB
  obtain ⟨⟨hl, ho⟩, _⟩ := h
  refine ⟨⟨hl, ?_⟩, hb⟩
  rcases ho with h | ⟨g, cap, cur, hv, hg, hh, r⟩
  · exact .inl h
  · exact .inr ⟨g, cap, cur, hv, hg, by rw [k.keep g (Array.getElem?_eq_some_iff.1 hh).1 (hn g (by rw [hv]; rfl))]; exact hh, r⟩
/-- Where the first cell is of another kind, the block is another one. -/
theorem Sl.not_blk {A : Option Addr} {n c s : Nat} {xs cs : List Value} {g : Nat} {t : TypeId} (h : Sl w A n c s xs) (hs : 0 < s) (hb : Blk w g t cs) (hk : ∀ u ∈ cs, ∀ x, xs[0]? = some x → u ≠ x) (hn : 0 < n) {b o : Nat} (e : A = some ⟨b, o, none⟩) : b ≠ g := by
  rintro rfl
  obtain ⟨h1, _, _, h4⟩ := h
  obtain ⟨b', o', e', hc⟩ := h4 hn
  rw [e] at e'
  injection e' with e'
  injection e' with e1 e2
  subst e1 e2
  have hl : 0 < xs.length := by rw [h1]; exact Nat.mul_pos hn hs
  have hcell := hc 0 _ (List.getElem?_eq_getElem hl)
  rw [Nat.add_zero, hb.cell] at hcell
  exact hk _ (List.mem_of_getElem? hcell) _ (List.getElem?_eq_getElem hl) rfl
theorem Sl.not_map {A : Option Addr} {n c s : Nat} {xs : List Value} {g : Nat} {es : Array MapEntry} {clock : Nat} (h : Sl w A n c s xs) (hs : 0 < s) (hm : w.heap[g]? = some (.map es clock)) (hn : 0 < n) {b o : Nat} (e : A = some ⟨b, o, none⟩) : b ≠ g := by
  rintro rfl
  obtain ⟨h1, _, _, h4⟩ := h
  obtain ⟨b', o', e', hc⟩ := h4 hn
  rw [e] at e'
  injection e' with e'
  injection e' with e1 e2
  subst e1 e2
  have hl : 0 < xs.length := by rw [h1]; exact Nat.mul_pos hn hs
  have hcell := hc 0 _ (List.getElem?_eq_getElem hl)
  simp [World.cell?, hm] at hcell
theorem Own.not_map {w0 : World} {e : TypeId} {s n : Nat} {v : Value} {xs : List Value} {g : Nat} {es : Array MapEntry} {clock : Nat} (h : Own w0 w e s v n xs) (hm : w.heap[g]? = some (.map es clock)) : v.ownBlock ≠ some g := by
  intro hv
  rcases h.1.2 with ⟨h1, _⟩ | ⟨g', cap, cur, hv', _, hh, _⟩
  · rw [h1] at hv; cases hv
  · have e1 : g' = g := by rw [hv'] at hv; exact Option.some.inj hv
    rw [e1, hm] at hh
    cases hh
theorem Own.not_blk {w0 : World} {e t : TypeId} {s n g : Nat} {v : Value} {xs cs : List Value} (h : Own w0 w e s v n xs) (hb : Blk w g t cs) (he : e ≠ t) : v.ownBlock ≠ some g := by
  intro hv
  rcases h.1.2 with ⟨h1, _⟩ | ⟨g', cap, cur, hv', _, hh, _⟩
  · rw [h1] at hv; cases hv
  · have e1 : g' = g := by rw [hv'] at hv; exact Option.some.inj hv
    rw [e1, hb] at hh
    injection hh with hh
    injection hh with _ h3
    exact he h3.symm
end
/-- append turns the slice's own block alone. -/
theorem Tch.kept {w0 w w' : World} {e : TypeId} {s n : Nat} {v v' : Value} {xs : List Value} (hk : Kept w w' v v') (h : Own w0 w' e s v' n xs) (hB : Below w0.heap.size w0 w) : Tch (fun b => v.ownBlock = some b) w w' :=
  ⟨⟨h.2.os.trans hB.os.symm, h.2.tape.trans hB.tape.symm, h.2.output.trans hB.output.symm, hk.2.1, fun k hk => by omega⟩, fun b hb hn => hk.1 b hb hn⟩
/-- A row of the call's own, cell by cell, with the room behind it. -/
theorem Own.opened {w0 w : World} {e : TypeId} {s n : Nat} {v : Value} {xs : List Value} (h : Own w0 w e s v n xs) (h0 : 0 < n) : ∃ g cap rest, v = .slice (some ⟨g, 0, none⟩) n cap ∧ w0.heap.size ≤ g ∧ Blk w g e (xs ++ rest) ∧ n ≤ cap ∧ cap ≤ 9223372036854775807 ∧ (xs ++ rest).length = cap * s := by
  rcases h.1.2 with ⟨_, h1⟩ | ⟨g, cap, cur, hv, hg, hh, hn, hm, hc, hx⟩
  · omega
  · have e1 : xs ++ cur.toList.drop (n * s) = cur.toList := by rw [← hx, List.take_append_drop]
    refine ⟨g, cap, cur.toList.drop (n * s), hv, hg, ?_, hn, hm, ?_⟩
    · unfold Blk
      rw [e1]
      simpa using hh
    · rw [e1]; simpa using hc
/-- .. and back. -/
theorem Blk.closed {w0 w : World} {e : TypeId} {s n g cap : Nat} {xs rest : List Value} (h : Blk w g e (xs ++ rest)) (hb : Below w0.heap.size w0 w) (hg : w0.heap.size ≤ g) (hn : n ≤ cap) (hm : cap ≤ 9223372036854775807) (hc : (xs ++ rest).length = cap * s) (hx : xs.length = n * s) : Own w0 w e s (.slice (some ⟨g, 0, none⟩) n cap) n xs :=
  ⟨⟨hx, .inr ⟨g, cap, (xs ++ rest).toArray, rfl, hg, h, hn, hm, by simpa using hc, by rw [← hx]; simp⟩⟩, hb⟩
end Go.Proofs.YtcfbbgbjlgonpaaGreatDoor

namespace Go.Proofs.YtcfbbgbjlgonpaaGreatDoor
open Go.RowKit
set_option linter.unusedVariables false

/-! ### slices of numbers -/
theorem tNums : ElemT Tryz.prog 50 3 (.int .i64 0) 1 8 := ⟨Tryz.underlying50, by kernel_rfl, rfl, by decide, by decide⟩
def RetIs (w : World) (l : List Int) (e : Ending) (w' : World) : Prop := ∃ v, e = .returned v ∧ Own w w' 3 1 v l.length (l.map i64c)
theorem Is.len {w : World} {A : Option Addr} {n c : Nat} {l : List Int} (h : Is w A n c l) : l.length = n := by have := Sl.len h; simpa using this
theorem Is.addr {w : World} {A : Option Addr} {n c : Nat} {l : List Int} (h : Is w A n c l) (hn : 0 < n) :
    ∃ b o, A = some ⟨b, o, none⟩ ∧ ∀ j, j < n → w.cell? ⟨b, o + j, none⟩ = some (.int .i64 (iAt l j)) := by
  obtain ⟨b, o, e, hc⟩ := Sl.addr h hn
  exact ⟨b, o, e, fun j hj => hc j _ (by
    have : j < l.length := by rw [h.len]; exact hj
    rw [List.getElem?_map, List.getElem?_eq_getElem this]; simp [i64c, iAt, this])⟩
theorem takeI_same {a b : List Int} {k : Nat} (ha : k < a.length) (hb : k < b.length) (h : a.take k = b.take k) (he : iAt a k = iAt b k) : a.take (k + 1) = b.take (k + 1) := by
  rw [List.take_succ_eq_append_getElem ha, List.take_succ_eq_append_getElem hb, h]
  have : a[k] = b[k] := by simpa [iAt, ha, hb] using he
  rw [this]
theorem ne_of_iAt {a b : List Int} {k : Nat} (h : iAt a k ≠ iAt b k) : (a == b) = false := by
  rw [beq_eq_false_iff_ne]; rintro rfl; exact h rfl

/-! ### numbers -/
set_option maxHeartbeats 400000 in
theorem ints_any (A B : Option Addr) (n m c d : Nat) (a b : List Int) (w : World) (ha : Is w A n c a) (hb : Is w B m d b) :
    Calls Tryz.prog 29 #[.slice A n c, .slice B m d] w fun e w' => e = .returned (.bool (a == b)) ∧ ∃ k, w' = w.drewN k := by
  have hla := ha.len
  have hlb := hb.len
  have ma := ha.max
  have mb := hb.max
  have ca := ha.cap
  have cb := hb.cap
  by_cases hnm : n = m
  · subst hnm
    have HA := Lib.hid ha; have HB := Lib.hid hb; clear ha hb
    have HLA := Lib.hid hla; have HLB := Lib.hid hlb; clear hla hlb
    have t1 : ((n : Int) != (n : Int)) = false := by simp
    go_enter Tryz.func29, Tryz.ntmps29
    go_wp2
    clear t1
    go_loopw [5] (fun i wr => ∃ k q : Nat, k ≤ n ∧ i = .int .i64 k ∧ wr = w.drewN q ∧ a.take k = b.take k) (fun i _ => n - (intOf i).toNat)
    case atStart => exact ⟨0, 0, Nat.zero_le _, rfl, rfl, rfl⟩
    case round =>
      obtain ⟨k, q, hk, rfl, rfl, hsame⟩ := hrel
      have HSM := Lib.hid hsame; clear hsame
      by_cases hlt : k < n
      · obtain ⟨b1, o1, rfl, hc1⟩ := HA.out.addr (by omega)
        obtain ⟨b2, o2, rfl, hc2⟩ := HB.out.addr (by omega)
        have c1 : w.cell? ⟨b1, o1 + k, none⟩ = some _ := hc1 k hlt
        have c2 : w.cell? ⟨b2, o2 + k, none⟩ = some _ := hc2 k hlt
        have HC1 := Lib.hid hc1; have HC2 := Lib.hid hc2; clear hc1 hc2
        by_cases he : iAt a k = iAt b k
        · have t1 : (iAt a k != iAt b k) = false := by simp [he]
          have HE := Lib.hid he; clear he
          go_wp2
          go_quiet (fail)
          go_wp2
          go_roundw
          case rel => exact ⟨k + 1, _, by omega, by go_num, rfl, takeI_same (by rw [HLA.out]; exact hlt) (by rw [HLB.out]; exact hlt) HSM.out HE.out⟩
          case measure => simp [intOf]; omega
        · have t1 : (iAt a k != iAt b k) = true := by simpa using he
          have HE := Lib.hid (ne_of_iAt he); clear he
          go_wp2
          go_quiet (fail)
          go_wp2
          go_ret
          exact ⟨ret_bool HE.out.symm, _, World.drewN_drewN _ _ _⟩
      · obtain rfl : k = n := by omega
        have HE : Hid ((a == b) = true) := by
          have h := HSM.out
          rw [List.take_of_length_le (by rw [HLA.out]; omega), List.take_of_length_le (by rw [HLB.out]; omega)] at h
          exact beq_iff_eq.2 h
        go_wp2
        go_ret
        exact ⟨ret_bool HE.out.symm, _, rfl⟩
  · have t1 : ((n : Int) != (m : Int)) = true := by rw [bne_iff_ne]; omega
    have HE : Hid ((a == b) = false) := by
      apply beq_eq_false_iff_ne.2
      rintro rfl
      omega
    clear ha hb
    go_enter Tryz.func29, Tryz.ntmps29
    go_wp2
    go_ret
    exact ⟨ret_bool HE.out.symm, 0, rfl⟩
end Go.Proofs.YtcfbbgbjlgonpaaGreatDoor

/- Terms in plain Lean: what is derived of what was learned, as the least set that is closed, as the reference's rounds reach it. No condition. -/
namespace Go.Proofs.YtcfbbgbjlgonpaaGreatDoor
set_option linter.unusedVariables false

/-- A term: its kind (1 an atom, 2 a text, 3 kdf, 4 mix, 5 enc), its parts, its label, an atom's number. -/
structure Nd where
  k : Nat
  a : Nat
  b : Nat
  s : ByteArray
  n : Nat
deriving DecidableEq
def Nd.parts (x : Nd) : List Nat := if x.k = 3 then [x.a] else if x.k < 3 then [] else [x.a, x.b]
/-- Parts are there, with lesser ids; kinds are 1 to 5. -/
def Parted (T : List Nd) : Prop := ∀ i x, T[i]? = some x → (1 ≤ x.k ∧ x.k ≤ 5) ∧ ∀ p ∈ x.parts, 1 ≤ p ∧ p ≤ i

/-! ### lists of bools, a place for each id -/
/-! ### the reference's rounds -/
/-! ### the program's way: built of what is had -/
end Go.Proofs.YtcfbbgbjlgonpaaGreatDoor

/- The program's table of terms in memory: are ids there?, kinds, parts. No condition. -/
namespace Go.Proofs.YtcfbbgbjlgonpaaGreatDoor
open Go.RowKit Go.Maps
set_option linter.unusedVariables false

/-! ### closures over ids: is there one for which it holds? -/
theorem is_new (w : World) (cs : List Int) : Is (w.alloc (.cells (cs.map i64c).toArray 3)) (some ⟨w.heap.size, 0, none⟩) cs.length cs.length cs ∨ maxLen < cs.length := by
  rcases Nat.lt_or_ge maxLen cs.length with h | h
  · exact .inr h
  · refine .inl ⟨by simp, Nat.le_refl _, h, fun _ => ⟨_, _, rfl, fun j u hu => ?_⟩⟩
    rw [Nat.zero_add, (Blk.new w _ _).cell]
    exact hu
theorem iAt_get {l : List Int} {k : Nat} (hk : k < l.length) : iAt l k = l[k] := by unfold iAt; rw [List.getD_eq_getElem?_getD, List.getElem?_eq_getElem hk]; rfl
theorem any_take_snoc (q : Int → Bool) (l : List Int) (k : Nat) (hk : k < l.length) : (l.take (k + 1)).any q = ((l.take k).any q || q (iAt l k)) := by
  rw [List.take_succ_eq_append_getElem hk, List.any_append, iAt_get hk]; simp
theorem any_of_at (q : Int → Bool) (l : List Int) (k : Nat) (hk : k < l.length) (h : q (iAt l k) = true) : l.any q = true := List.any_eq_true.2 ⟨l[k], List.getElem_mem hk, by rw [← iAt_get hk]; exact h⟩
theorem iAt_mem {l : List Int} {k : Nat} (hk : k < l.length) : iAt l k ∈ l := by rw [iAt_get hk]; exact List.getElem_mem hk
set_option maxHeartbeats 400000 in
theorem indexThere (C : Value) (A : Option Addr) (n c : Nat) (l : List Int) (q : Int → Bool) (w : World) (h : Is w A n c l) (hq : ∀ x ∈ l, ∀ w', Gr w w' → Calls Tryz.prog 75 #[.int .i64 x, C] w' fun e w'' => e = .returned (.bool (q x)) ∧ Gr w' w'') :
    Calls Tryz.prog 111 #[.slice A n c, .func (.func 75) #[] #[C]] w fun e w' => ∃ r, e = .returned (.int .i64 r) ∧ decide (0 ≤ r) = l.any q ∧ Gr w w' := by
  have hmax := h.max
  have hcap := h.cap
  have hll := h.len
  have HL := Lib.hid h.len
  have HH := Lib.hid h; have HQ := Lib.hid hq; clear h hq hll
  go_enter Tryz.func111, Tryz.ntmps111
  go_wp2
  go_loopw [8] (fun i wr => ∃ k : Nat, k ≤ n ∧ i = .int .i64 k ∧ Gr w wr ∧ (l.take k).any q = false) (fun i _ => n - (Go.RowKit.intOf i).toNat)
  case atStart => exact ⟨0, Nat.zero_le _, rfl, Gr.refl _, rfl⟩
  case round =>
    obtain ⟨k, hk, rfl, hbel, hall⟩ := hrel
    have HA := Lib.hid hall; have HB := Lib.hid hbel; clear hall
    by_cases hlt : k < n
    · obtain ⟨b, o, rfl, hcc⟩ := Is.addr (l := l) (HH.out.mono hbel) (by omega)
      have c1 := hcc k hlt
      have hkl : k < l.length := by rw [HL.out]; exact hlt
      have HC := Lib.hid (HQ.out (iAt l k) (iAt_mem hkl) wr hbel)
      have HS := Lib.hid (any_take_snoc q l k hkl)
      have HT : Hid (q (iAt l k) = true → l.any q = true) := fun hh => any_of_at q l k hkl hh
      clear hcc hkl hbel
      generalize iAt l k = x at *
      cases he : q x
      · have HT2 : Hid ((l.take (k + 1)).any q = false) := by show _ = _; rw [HS.out, HA.out, he]; rfl
        rw [he] at HC
        clear he
        go_wp2_with (go_at_call 75; refine HC.out.mono ?_; rintro e w1 ⟨rfl, b1⟩)
        go_roundw
        case rel => exact ⟨k + 1, by omega, by go_num, HB.out.trans b1, HT2.out⟩
        case measure => simp [Go.RowKit.intOf]; omega
      · have HF : Hid (l.any q = true) := HT.out he
        rw [he] at HC
        clear he
        go_wp2_with (go_at_call 75; refine HC.out.mono ?_; rintro e w1 ⟨rfl, b1⟩)
        go_ret
        exact ⟨k, rfl, by rw [HF.out, decide_eq_true_iff]; omega, HB.out.trans b1⟩
    · obtain rfl : n = k := by omega
      have HF : Hid (l.any q = false) := by have := HA.out; rwa [List.take_of_length_le (by rw [HL.out]; omega)] at this
      clear hbel
      go_wp2
      go_ret
      exact ⟨-1, rfl, by rw [HF.out]; rfl, HB.out⟩
theorem containsThere (C : Value) (A : Option Addr) (n c : Nat) (l : List Int) (q : Int → Bool) (w : World) (h : Is w A n c l) (hq : ∀ x ∈ l, ∀ w', Gr w w' → Calls Tryz.prog 75 #[.int .i64 x, C] w' fun e w'' => e = .returned (.bool (q x)) ∧ Gr w' w'') :
    Calls Tryz.prog 74 #[.slice A n c, .func (.func 75) #[] #[C]] w fun e w' => e = .returned (.bool (l.any q)) ∧ Gr w w' := by
  have HI := Lib.hid (indexThere C A n c l q w h hq)
  clear h hq
  go_enter Tryz.func74, Tryz.ntmps74
  go_wp2_with fail
  refine HI.out.mono ?_
  rintro e w1 ⟨r, rfl, hr, g1⟩
  have HR := Lib.hid hr; have G1 := Lib.hid g1; clear hr g1
  go_wp2_with fail
  go_ret
  exact ⟨ret_bool HR.out, G1.out⟩

/-! ### a table in memory -/
def outside (n : Nat) (id : Int) : Bool := decide (id < 1) || decide ((n : Int) < id)
/-- The table's list of n terms. -/
def TLen (w : World) (g n : Nat) : Prop := ∃ A c, w.cell? ⟨g, 0, none⟩ = some (.slice A n c)
theorem TLen.mono {w w' : World} {g n : Nat} (h : TLen w g n) (hb : Gr w w') : TLen w' g n := by
  obtain ⟨A, c, h⟩ := h
  exact ⟨A, c, (Below.cell hb (World.block_lt_of_cell? w _ h)).trans h⟩
theorem there1_any (p g n : Nat) (id : Int) (w : World) (hp : w.cell? ⟨p, 0, none⟩ = some (.pointer (some ⟨g, 0, none⟩))) (h : TLen w g n) :
    Calls Tryz.prog 75 #[.int .i64 id, .pointer (some ⟨p, 0, none⟩)] w fun e w' => e = .returned (.bool (outside n id)) ∧ Gr w w' := by
  obtain ⟨A, c, h⟩ := h
  unfold outside
  by_cases h1 : id < 1
  · rw [decide_eq_true h1]
    go_enter Tryz.func75, Tryz.ntmps75
    go_wp2_with fail
    go_ret
    exact ⟨rfl, Gr.refl _⟩
  · rw [decide_eq_false h1, Bool.false_or]
    go_enter Tryz.func75, Tryz.ntmps75
    go_wp2_with fail
    go_ret
    exact ⟨rfl, Gr.refl _⟩
theorem there_any (g n : Nat) (A : Option Addr) (m c : Nat) (l : List Int) (w : World) (ht : TLen w g n) (h : Is w A m c l) :
    Calls Tryz.prog 35 #[.pointer (some ⟨g, 0, none⟩), .slice A m c] w fun e w' => e = .returned (.bool (!l.any (outside n))) ∧ Gr w w' := by
  obtain ⟨W, hW⟩ : ∃ W, W = w.alloc (.cells #[.pointer (some ⟨g, 0, none⟩)] 34) := ⟨_, rfl⟩
  have hg : Gr w W := by rw [hW]; exact Gr.alloc _ _
  have hp : W.cell? ⟨w.heap.size, 0, none⟩ = some (.pointer (some ⟨g, 0, none⟩)) := by rw [hW, (Blk.new w _ _).cell]; rfl
  have HC := Lib.hid (containsThere (.pointer (some ⟨w.heap.size, 0, none⟩)) A m c l (outside n) W (h.mono hg) (fun x _ w' hw => there1_any w.heap.size g n x w' ((Below.cell hw (World.block_lt_of_cell? W _ hp)).trans hp) ((ht.mono hg).mono hw)))
  have HG := Lib.hid hg; have HW := Lib.hid hW; have HP := Lib.hid hp
  clear ht h hg hW hp
  go_enter Tryz.func35, Tryz.ntmps35
  go_wp2_with fail
  rw [← HW.out]
  refine HC.out.mono ?_
  rintro e w1 ⟨rfl, g1⟩
  have G1 := Lib.hid g1; clear g1
  go_wp2_with fail
  go_ret
  exact ⟨rfl, HG.out.trans G1.out⟩
/-! ### what a term's value is asserted to be -/
theorem assert_hit {P : Program} {X : TypeId} {fs : Array Field} (hu : P.underlying X = some (.struct fs)) (xT : TypeId) (v : Value) (w : World) : (Instr.typeAssert (.iface X v) xT X true).run P w = .ok (.tuple #[v, .bool true]) w := by
  simp [Instr.typeAssert, run_underlying hu]
theorem assert_miss {P : Program} {X : TypeId} {fs : Array Field} {z : Value} (hu : P.underlying X = some (.struct fs)) (hz : ∀ w, (zeroValue X).run P w = .ok z w) (xT D : TypeId) (hD : (D = X) = False) (v : Value) (w : World) : (Instr.typeAssert (.iface D v) xT X true).run P w = .ok (.tuple #[z, .bool false]) w := by
  simp [Instr.typeAssert, run_underlying hu, hD, hz]
theorem zAtom (w : World) : (zeroValue 72).run Tryz.prog w = .ok (.agg #[.int .i64 0]) w := by kernel_rfl
theorem zText (w : World) : (zeroValue 75).run Tryz.prog w = .ok (.agg #[.string ByteArray.empty]) w := by kernel_rfl
theorem zKdf (w : World) : (zeroValue 78).run Tryz.prog w = .ok (.agg #[.int .i64 0, .string ByteArray.empty]) w := by kernel_rfl
theorem zMix (w : World) : (zeroValue 81).run Tryz.prog w = .ok (.agg #[.int .i64 0, .int .i64 0]) w := by kernel_rfl
theorem zEnc (w : World) : (zeroValue 117).run Tryz.prog w = .ok (.agg #[.int .i64 0, .int .i64 0]) w := by kernel_rfl
end Go.Proofs.YtcfbbgbjlgonpaaGreatDoor
